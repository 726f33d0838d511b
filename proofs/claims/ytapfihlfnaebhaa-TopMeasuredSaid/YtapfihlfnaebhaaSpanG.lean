/- Contracts: Meet of the program. -/
import Derived.Test.YtapfihlfnaebhaaSpanF
namespace Go.Proofs.Ytapfihlfnaebhaa
set_option linter.unusedVariables false
set_option linter.unusedSimpArgs false
open Go.RowKit


def meetE (a b : Sp) : Int := if allV [a, b] = true then (if a = b then 0 else if (endsV maxi mini a [b]).lo > (endsV maxi mini a [b]).hi then 10 else 0) else 1
def meetS (a b : Sp) : Sp := if allV [a, b] = true then (if a = b then a else if (endsV maxi mini a [b]).lo > (endsV maxi mini a [b]).hi then sp0 else endsV maxi mini a [b]) else sp0
set_option maxHeartbeats 1000000 in
theorem meet_any (a b : Sp) (w : World) : Calls Try.prog 53 #[.agg #[.int .i64 (a).lo, .int .i64 (a).hi], .agg #[.int .i64 (b).lo, .int .i64 (b).hi]] w fun e w' => e = .returned (.tuple #[.agg #[.int .i64 (meetS a b).lo, .int .i64 (meetS a b).hi], .int .i64 (meetE a b)]) ∧ Below w.heap.size w w' := by
  have BA : Blk ((((w.alloc (.cells #[.int .i64 a.lo, .int .i64 a.hi] 32)).alloc (.cells #[.int .i64 b.lo, .int .i64 b.hi] 32)).alloc (.cells #[.int .i64 0, .int .i64 0] 32))) w.heap.size 32 #[.int .i64 a.lo, .int .i64 a.hi] := ((Blk.new w 32 #[.int .i64 a.lo, .int .i64 a.hi]).alloc _).alloc _
  have BB : Blk ((((w.alloc (.cells #[.int .i64 a.lo, .int .i64 a.hi] 32)).alloc (.cells #[.int .i64 b.lo, .int .i64 b.hi] 32)).alloc (.cells #[.int .i64 0, .int .i64 0] 32))) (w.heap.size + 1) 32 #[.int .i64 b.lo, .int .i64 b.hi] := by
    have := (Blk.new (w.alloc (.cells #[.int .i64 a.lo, .int .i64 a.hi] 32)) 32 #[.int .i64 b.lo, .int .i64 b.hi]).alloc (.cells #[.int .i64 0, .int .i64 0] 32)
    simpa using this
  have BZ : Blk ((((w.alloc (.cells #[.int .i64 a.lo, .int .i64 a.hi] 32)).alloc (.cells #[.int .i64 b.lo, .int .i64 b.hi] 32)).alloc (.cells #[.int .i64 0, .int .i64 0] 32))) (w.heap.size + 2) 32 #[.int .i64 0, .int .i64 0] := by
    have := Blk.new ((w.alloc (.cells #[.int .i64 a.lo, .int .i64 a.hi] 32)).alloc (.cells #[.int .i64 b.lo, .int .i64 b.hi] 32)) 32 #[.int .i64 0, .int .i64 0]
    simpa using this
  have hb : Below w.heap.size w ((((w.alloc (.cells #[.int .i64 a.lo, .int .i64 a.hi] 32)).alloc (.cells #[.int .i64 b.lo, .int .i64 b.hi] 32)).alloc (.cells #[.int .i64 0, .int .i64 0] 32))) := by repeat (first | (with_reducible exact Below.refl _ _) | (with_reducible assumption) | (with_reducible refine Below.drew ?_) | ((with_reducible refine Below.alloc ?_ ?_ _); rotate_left; (first | (with_reducible exact Nat.zero_le _) | (with_reducible exact Nat.le_refl _) | omega | (dsimp only; omega) | (simp only [World.size_alloc, World.size_setCell, World.size_drew]; omega))) | ((with_reducible refine Below.setCell ?_ ?_ _); rotate_left; (first | (with_reducible exact Nat.zero_le _) | (with_reducible exact Nat.le_refl _) | omega | (dsimp only; omega) | (simp only [World.size_alloc, World.size_setCell, World.size_drew]; omega))))
  have hE : meetE a b = if allV [a, b] = true then (if a = b then 0 else if (endsV maxi mini a [b]).lo > (endsV maxi mini a [b]).hi then 10 else 0) else 1 := rfl
  have hS : meetS a b = if allV [a, b] = true then (if a = b then a else if (endsV maxi mini a [b]).lo > (endsV maxi mini a [b]).hi then sp0 else endsV maxi mini a [b]) else sp0 := rfl
  have hva := fun w v h => valids_any (w := w) (v := v) (l := [a, b]) h
  have hen := fun (w : World) (v : Value) h => ends_most (w := w) (v := v) a (l := [b]) h
  generalize allV [a, b] = c at *
  generalize endsV maxi mini a [b] = rS at *
  cases c with
  | false =>
    rw [if_neg (by simp)] at hE hS
    rw [hE, hS]
    clear hE hS hen
    go_enter Try.func53, Try.ntmps53
    go_wp2_with fail
    have BL := Blk.new ((((w.alloc (.cells #[.int .i64 a.lo, .int .i64 a.hi] 32)).alloc (.cells #[.int .i64 b.lo, .int .i64 b.hi] 32)).alloc (.cells #[.int .i64 0, .int .i64 0] 32))) 32 #[.int .i64 a.lo, .int .i64 a.hi, .int .i64 b.lo, .int .i64 b.hi]
    simp only [World.size_alloc] at BL
    replace BZ := BZ.alloc (.cells #[.int .i64 a.lo, .int .i64 a.hi, .int .i64 b.lo, .int .i64 b.hi] 32)
    replace hb := hb.alloc hb.size (.cells #[.int .i64 a.lo, .int .i64 a.hi, .int .i64 b.lo, .int .i64 b.hi] 32)
    refine (hva _ _ (RowIn.of_blk2 (l := [a, b]) BL (by rfl) (by simp [maxLen]))).mono ?_
    rintro e w1 ⟨rfl, hb1⟩
    replace BZ := BZ.step hb1
    replace hb := hb.trans (hb1.mono hb.size)
    have cz := BZ.cell
    have fz := BZ.free
    have lz := BZ.lt
    clear BA BB BL
    go_wp2_with fail
    refine bodyPost_ret (v := .tuple #[.agg #[.int .i64 0, .int .i64 0], .int .i64 1]) (by simp only [results, Try.results53]; go_simp; first | done | rfl) rfl ⟨rfl, ?_⟩
    repeat (first | (with_reducible exact Below.refl _ _) | (with_reducible assumption) | (with_reducible refine Below.drew ?_) | ((with_reducible refine Below.alloc ?_ ?_ _); rotate_left; (first | (with_reducible exact Nat.zero_le _) | (with_reducible exact Nat.le_refl _) | omega | (dsimp only; omega) | (simp only [World.size_alloc, World.size_setCell, World.size_drew]; omega))) | ((with_reducible refine Below.setCell ?_ ?_ _); rotate_left; (first | (with_reducible exact Nat.zero_le _) | (with_reducible exact Nat.le_refl _) | omega | (dsimp only; omega) | (simp only [World.size_alloc, World.size_setCell, World.size_drew]; omega))))
  | true =>
    rw [if_pos rfl] at hE hS
    by_cases hab : a = b
    · rw [if_pos hab] at hE hS
      rw [hE, hS]
      have q1 : a.lo ≤ b.lo ∧ b.lo ≤ a.lo ∧ a.hi ≤ b.hi ∧ b.hi ≤ a.hi := by rw [hab]; omega
      obtain ⟨q1, q2, q3, q4⟩ := q1
      clear hE hS hen hab
      go_enter Try.func53, Try.ntmps53
      go_wp2_with fail
      have BL := Blk.new ((((w.alloc (.cells #[.int .i64 a.lo, .int .i64 a.hi] 32)).alloc (.cells #[.int .i64 b.lo, .int .i64 b.hi] 32)).alloc (.cells #[.int .i64 0, .int .i64 0] 32))) 32 #[.int .i64 a.lo, .int .i64 a.hi, .int .i64 b.lo, .int .i64 b.hi]
      simp only [World.size_alloc] at BL
      replace BA := BA.alloc (.cells #[.int .i64 a.lo, .int .i64 a.hi, .int .i64 b.lo, .int .i64 b.hi] 32)
      replace BB := BB.alloc (.cells #[.int .i64 a.lo, .int .i64 a.hi, .int .i64 b.lo, .int .i64 b.hi] 32)
      replace BZ := BZ.alloc (.cells #[.int .i64 a.lo, .int .i64 a.hi, .int .i64 b.lo, .int .i64 b.hi] 32)
      replace hb := hb.alloc hb.size (.cells #[.int .i64 a.lo, .int .i64 a.hi, .int .i64 b.lo, .int .i64 b.hi] 32)
      refine (hva _ _ (RowIn.of_blk2 (l := [a, b]) BL (by rfl) (by simp [maxLen]))).mono ?_
      rintro e w1 ⟨rfl, hb1⟩
      replace BA := BA.step hb1
      replace BB := BB.step hb1
      replace BZ := BZ.step hb1
      replace hb := hb.trans (hb1.mono hb.size)
      clear BL
      have ca := BA.cell
      have la := BA.lt
      have cb := BB.cell
      have lb := BB.lt
      have cz := BZ.cell
      have fz := BZ.free
      have lz := BZ.lt
      go_wp2_with fail
      refine bodyPost_ret (v := .tuple #[.agg #[.int .i64 a.lo, .int .i64 a.hi], .int .i64 0]) (by simp only [results, Try.results53]; go_simp; first | done | rfl) rfl ⟨rfl, ?_⟩
      repeat (first | (with_reducible exact Below.refl _ _) | (with_reducible assumption) | (with_reducible refine Below.drew ?_) | ((with_reducible refine Below.alloc ?_ ?_ _); rotate_left; (first | (with_reducible exact Nat.zero_le _) | (with_reducible exact Nat.le_refl _) | omega | (dsimp only; omega) | (simp only [World.size_alloc, World.size_setCell, World.size_drew]; omega))) | ((with_reducible refine Below.setCell ?_ ?_ _); rotate_left; (first | (with_reducible exact Nat.zero_le _) | (with_reducible exact Nat.le_refl _) | omega | (dsimp only; omega) | (simp only [World.size_alloc, World.size_setCell, World.size_drew]; omega))))
    · rw [if_neg hab] at hE hS
      have hc : ¬ a.lo = b.lo ∨ (a.lo ≤ b.lo ∧ b.lo ≤ a.lo ∧ ¬ a.hi = b.hi) := by
        by_cases h1 : a.lo = b.lo
        · refine .inr ⟨by omega, by omega, fun h2 => hab ?_⟩
          cases a; cases b; simp_all
        · exact .inl h1
      clear hab
      by_cases hgt : rS.lo > rS.hi
      · rw [if_pos hgt] at hE hS
        rw [hE, hS]
        clear hE hS
        rcases hc with h1 | ⟨h1, h3, h2⟩
        · go_enter Try.func53, Try.ntmps53
          go_wp2_with fail
          have BL := Blk.new ((((w.alloc (.cells #[.int .i64 a.lo, .int .i64 a.hi] 32)).alloc (.cells #[.int .i64 b.lo, .int .i64 b.hi] 32)).alloc (.cells #[.int .i64 0, .int .i64 0] 32))) 32 #[.int .i64 a.lo, .int .i64 a.hi, .int .i64 b.lo, .int .i64 b.hi]
          simp only [World.size_alloc] at BL
          replace BA := BA.alloc (.cells #[.int .i64 a.lo, .int .i64 a.hi, .int .i64 b.lo, .int .i64 b.hi] 32)
          replace BB := BB.alloc (.cells #[.int .i64 a.lo, .int .i64 a.hi, .int .i64 b.lo, .int .i64 b.hi] 32)
          replace BZ := BZ.alloc (.cells #[.int .i64 a.lo, .int .i64 a.hi, .int .i64 b.lo, .int .i64 b.hi] 32)
          replace hb := hb.alloc hb.size (.cells #[.int .i64 a.lo, .int .i64 a.hi, .int .i64 b.lo, .int .i64 b.hi] 32)
          refine (hva _ _ (RowIn.of_blk2 (l := [a, b]) BL (by rfl) (by simp [maxLen]))).mono ?_
          rintro e w1 ⟨rfl, hb1⟩
          replace BA := BA.step hb1
          replace BB := BB.step hb1
          replace BZ := BZ.step hb1
          replace hb := hb.trans (hb1.mono hb.size)
          clear BL
          have ca := BA.cell
          have la := BA.lt
          have cb := BB.cell
          have lb := BB.lt
          have cz := BZ.cell
          have fz := BZ.free
          have lz := BZ.lt
          go_wp2_with fail
          clear ca la cb lb cz fz lz
          have BL := Blk.new w1 32 #[.int .i64 b.lo, .int .i64 b.hi]
          replace BZ := BZ.alloc (.cells #[.int .i64 b.lo, .int .i64 b.hi] 32)
          replace hb := hb.alloc hb.size (.cells #[.int .i64 b.lo, .int .i64 b.hi] 32)
          clear BA BB
          refine (hen _ _ (RowIn.of_blk2 (l := [b]) BL (by rfl) (by simp [maxLen]))).mono ?_
          rintro e w2 ⟨rfl, hb2⟩
          replace BZ := (BZ.step hb2).alloc (.cells #[.int .i64 rS.lo, .int .i64 rS.hi] 32)
          replace hb := hb.trans (hb2.mono hb.size)
          replace hb := hb.alloc hb.size (.cells #[.int .i64 rS.lo, .int .i64 rS.hi] 32)
          clear BL hen hva
          have cz := BZ.cell
          have fz := BZ.free
          have lz := BZ.lt
          go_wp2_with fail
          refine bodyPost_ret (v := .tuple #[.agg #[.int .i64 0, .int .i64 0], .int .i64 10]) (by simp only [results, Try.results53]; go_simp; first | done | rfl) rfl ⟨rfl, ?_⟩
          repeat (first | (with_reducible exact Below.refl _ _) | (with_reducible assumption) | (with_reducible refine Below.drew ?_) | ((with_reducible refine Below.alloc ?_ ?_ _); rotate_left; (first | (with_reducible exact Nat.zero_le _) | (with_reducible exact Nat.le_refl _) | omega | (dsimp only; omega) | (simp only [World.size_alloc, World.size_setCell, World.size_drew]; omega))) | ((with_reducible refine Below.setCell ?_ ?_ _); rotate_left; (first | (with_reducible exact Nat.zero_le _) | (with_reducible exact Nat.le_refl _) | omega | (dsimp only; omega) | (simp only [World.size_alloc, World.size_setCell, World.size_drew]; omega))))
        · go_enter Try.func53, Try.ntmps53
          go_wp2_with fail
          have BL := Blk.new ((((w.alloc (.cells #[.int .i64 a.lo, .int .i64 a.hi] 32)).alloc (.cells #[.int .i64 b.lo, .int .i64 b.hi] 32)).alloc (.cells #[.int .i64 0, .int .i64 0] 32))) 32 #[.int .i64 a.lo, .int .i64 a.hi, .int .i64 b.lo, .int .i64 b.hi]
          simp only [World.size_alloc] at BL
          replace BA := BA.alloc (.cells #[.int .i64 a.lo, .int .i64 a.hi, .int .i64 b.lo, .int .i64 b.hi] 32)
          replace BB := BB.alloc (.cells #[.int .i64 a.lo, .int .i64 a.hi, .int .i64 b.lo, .int .i64 b.hi] 32)
          replace BZ := BZ.alloc (.cells #[.int .i64 a.lo, .int .i64 a.hi, .int .i64 b.lo, .int .i64 b.hi] 32)
          replace hb := hb.alloc hb.size (.cells #[.int .i64 a.lo, .int .i64 a.hi, .int .i64 b.lo, .int .i64 b.hi] 32)
          refine (hva _ _ (RowIn.of_blk2 (l := [a, b]) BL (by rfl) (by simp [maxLen]))).mono ?_
          rintro e w1 ⟨rfl, hb1⟩
          replace BA := BA.step hb1
          replace BB := BB.step hb1
          replace BZ := BZ.step hb1
          replace hb := hb.trans (hb1.mono hb.size)
          clear BL
          have ca := BA.cell
          have la := BA.lt
          have cb := BB.cell
          have lb := BB.lt
          have cz := BZ.cell
          have fz := BZ.free
          have lz := BZ.lt
          go_wp2_with fail
          clear ca la cb lb cz fz lz
          have BL := Blk.new w1 32 #[.int .i64 b.lo, .int .i64 b.hi]
          replace BZ := BZ.alloc (.cells #[.int .i64 b.lo, .int .i64 b.hi] 32)
          replace hb := hb.alloc hb.size (.cells #[.int .i64 b.lo, .int .i64 b.hi] 32)
          clear BA BB
          refine (hen _ _ (RowIn.of_blk2 (l := [b]) BL (by rfl) (by simp [maxLen]))).mono ?_
          rintro e w2 ⟨rfl, hb2⟩
          replace BZ := (BZ.step hb2).alloc (.cells #[.int .i64 rS.lo, .int .i64 rS.hi] 32)
          replace hb := hb.trans (hb2.mono hb.size)
          replace hb := hb.alloc hb.size (.cells #[.int .i64 rS.lo, .int .i64 rS.hi] 32)
          clear BL hen hva
          have cz := BZ.cell
          have fz := BZ.free
          have lz := BZ.lt
          go_wp2_with fail
          refine bodyPost_ret (v := .tuple #[.agg #[.int .i64 0, .int .i64 0], .int .i64 10]) (by simp only [results, Try.results53]; go_simp; first | done | rfl) rfl ⟨rfl, ?_⟩
          repeat (first | (with_reducible exact Below.refl _ _) | (with_reducible assumption) | (with_reducible refine Below.drew ?_) | ((with_reducible refine Below.alloc ?_ ?_ _); rotate_left; (first | (with_reducible exact Nat.zero_le _) | (with_reducible exact Nat.le_refl _) | omega | (dsimp only; omega) | (simp only [World.size_alloc, World.size_setCell, World.size_drew]; omega))) | ((with_reducible refine Below.setCell ?_ ?_ _); rotate_left; (first | (with_reducible exact Nat.zero_le _) | (with_reducible exact Nat.le_refl _) | omega | (dsimp only; omega) | (simp only [World.size_alloc, World.size_setCell, World.size_drew]; omega))))
      · rw [if_neg hgt] at hE hS
        rw [hE, hS]
        clear hE hS
        rcases hc with h1 | ⟨h1, h3, h2⟩
        · go_enter Try.func53, Try.ntmps53
          go_wp2_with fail
          have BL := Blk.new ((((w.alloc (.cells #[.int .i64 a.lo, .int .i64 a.hi] 32)).alloc (.cells #[.int .i64 b.lo, .int .i64 b.hi] 32)).alloc (.cells #[.int .i64 0, .int .i64 0] 32))) 32 #[.int .i64 a.lo, .int .i64 a.hi, .int .i64 b.lo, .int .i64 b.hi]
          simp only [World.size_alloc] at BL
          replace BA := BA.alloc (.cells #[.int .i64 a.lo, .int .i64 a.hi, .int .i64 b.lo, .int .i64 b.hi] 32)
          replace BB := BB.alloc (.cells #[.int .i64 a.lo, .int .i64 a.hi, .int .i64 b.lo, .int .i64 b.hi] 32)
          replace BZ := BZ.alloc (.cells #[.int .i64 a.lo, .int .i64 a.hi, .int .i64 b.lo, .int .i64 b.hi] 32)
          replace hb := hb.alloc hb.size (.cells #[.int .i64 a.lo, .int .i64 a.hi, .int .i64 b.lo, .int .i64 b.hi] 32)
          refine (hva _ _ (RowIn.of_blk2 (l := [a, b]) BL (by rfl) (by simp [maxLen]))).mono ?_
          rintro e w1 ⟨rfl, hb1⟩
          replace BA := BA.step hb1
          replace BB := BB.step hb1
          replace BZ := BZ.step hb1
          replace hb := hb.trans (hb1.mono hb.size)
          clear BL
          have ca := BA.cell
          have la := BA.lt
          have cb := BB.cell
          have lb := BB.lt
          have cz := BZ.cell
          have fz := BZ.free
          have lz := BZ.lt
          go_wp2_with fail
          clear ca la cb lb cz fz lz
          have BL := Blk.new w1 32 #[.int .i64 b.lo, .int .i64 b.hi]
          replace BZ := BZ.alloc (.cells #[.int .i64 b.lo, .int .i64 b.hi] 32)
          replace hb := hb.alloc hb.size (.cells #[.int .i64 b.lo, .int .i64 b.hi] 32)
          clear BA BB
          refine (hen _ _ (RowIn.of_blk2 (l := [b]) BL (by rfl) (by simp [maxLen]))).mono ?_
          rintro e w2 ⟨rfl, hb2⟩
          replace BZ := (BZ.step hb2).alloc (.cells #[.int .i64 rS.lo, .int .i64 rS.hi] 32)
          replace hb := hb.trans (hb2.mono hb.size)
          replace hb := hb.alloc hb.size (.cells #[.int .i64 rS.lo, .int .i64 rS.hi] 32)
          clear BL hen hva
          have cz := BZ.cell
          have fz := BZ.free
          have lz := BZ.lt
          go_wp2_with fail
          refine bodyPost_ret (v := .tuple #[.agg #[.int .i64 (rS).lo, .int .i64 (rS).hi], .int .i64 (0)]) (by simp only [results, Try.results53]; go_simp; first | done | rfl) rfl ⟨rfl, ?_⟩
          repeat (first | (with_reducible exact Below.refl _ _) | (with_reducible assumption) | (with_reducible refine Below.drew ?_) | ((with_reducible refine Below.alloc ?_ ?_ _); rotate_left; (first | (with_reducible exact Nat.zero_le _) | (with_reducible exact Nat.le_refl _) | omega | (dsimp only; omega) | (simp only [World.size_alloc, World.size_setCell, World.size_drew]; omega))) | ((with_reducible refine Below.setCell ?_ ?_ _); rotate_left; (first | (with_reducible exact Nat.zero_le _) | (with_reducible exact Nat.le_refl _) | omega | (dsimp only; omega) | (simp only [World.size_alloc, World.size_setCell, World.size_drew]; omega))))
        · go_enter Try.func53, Try.ntmps53
          go_wp2_with fail
          have BL := Blk.new ((((w.alloc (.cells #[.int .i64 a.lo, .int .i64 a.hi] 32)).alloc (.cells #[.int .i64 b.lo, .int .i64 b.hi] 32)).alloc (.cells #[.int .i64 0, .int .i64 0] 32))) 32 #[.int .i64 a.lo, .int .i64 a.hi, .int .i64 b.lo, .int .i64 b.hi]
          simp only [World.size_alloc] at BL
          replace BA := BA.alloc (.cells #[.int .i64 a.lo, .int .i64 a.hi, .int .i64 b.lo, .int .i64 b.hi] 32)
          replace BB := BB.alloc (.cells #[.int .i64 a.lo, .int .i64 a.hi, .int .i64 b.lo, .int .i64 b.hi] 32)
          replace BZ := BZ.alloc (.cells #[.int .i64 a.lo, .int .i64 a.hi, .int .i64 b.lo, .int .i64 b.hi] 32)
          replace hb := hb.alloc hb.size (.cells #[.int .i64 a.lo, .int .i64 a.hi, .int .i64 b.lo, .int .i64 b.hi] 32)
          refine (hva _ _ (RowIn.of_blk2 (l := [a, b]) BL (by rfl) (by simp [maxLen]))).mono ?_
          rintro e w1 ⟨rfl, hb1⟩
          replace BA := BA.step hb1
          replace BB := BB.step hb1
          replace BZ := BZ.step hb1
          replace hb := hb.trans (hb1.mono hb.size)
          clear BL
          have ca := BA.cell
          have la := BA.lt
          have cb := BB.cell
          have lb := BB.lt
          have cz := BZ.cell
          have fz := BZ.free
          have lz := BZ.lt
          go_wp2_with fail
          clear ca la cb lb cz fz lz
          have BL := Blk.new w1 32 #[.int .i64 b.lo, .int .i64 b.hi]
          replace BZ := BZ.alloc (.cells #[.int .i64 b.lo, .int .i64 b.hi] 32)
          replace hb := hb.alloc hb.size (.cells #[.int .i64 b.lo, .int .i64 b.hi] 32)
          clear BA BB
          refine (hen _ _ (RowIn.of_blk2 (l := [b]) BL (by rfl) (by simp [maxLen]))).mono ?_
          rintro e w2 ⟨rfl, hb2⟩
          replace BZ := (BZ.step hb2).alloc (.cells #[.int .i64 rS.lo, .int .i64 rS.hi] 32)
          replace hb := hb.trans (hb2.mono hb.size)
          replace hb := hb.alloc hb.size (.cells #[.int .i64 rS.lo, .int .i64 rS.hi] 32)
          clear BL hen hva
          have cz := BZ.cell
          have fz := BZ.free
          have lz := BZ.lt
          go_wp2_with fail
          refine bodyPost_ret (v := .tuple #[.agg #[.int .i64 (rS).lo, .int .i64 (rS).hi], .int .i64 (0)]) (by simp only [results, Try.results53]; go_simp; first | done | rfl) rfl ⟨rfl, ?_⟩
          repeat (first | (with_reducible exact Below.refl _ _) | (with_reducible assumption) | (with_reducible refine Below.drew ?_) | ((with_reducible refine Below.alloc ?_ ?_ _); rotate_left; (first | (with_reducible exact Nat.zero_le _) | (with_reducible exact Nat.le_refl _) | omega | (dsimp only; omega) | (simp only [World.size_alloc, World.size_setCell, World.size_drew]; omega))) | ((with_reducible refine Below.setCell ?_ ?_ _); rotate_left; (first | (with_reducible exact Nat.zero_le _) | (with_reducible exact Nat.le_refl _) | omega | (dsimp only; omega) | (simp only [World.size_alloc, World.size_setCell, World.size_drew]; omega))))

end Go.Proofs.Ytapfihlfnaebhaa
