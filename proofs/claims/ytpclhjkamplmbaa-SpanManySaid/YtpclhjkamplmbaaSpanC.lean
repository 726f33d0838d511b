/- Contracts: Add, Sub, Sum, Meet, Hull, Has, Widen of the program. -/
import Derived.Test.YtpclhjkamplmbaaSpanB
namespace Go.Proofs.Ytpclhjkamplmbaa
set_option linter.unusedVariables false
set_option linter.unusedSimpArgs false
open Go.RowKit

def addE (a b : Sp) : Int := if allV [a, b] = true then resE (endsV plus plus a [b]) else 1
def addS (a b : Sp) : Sp := if allV [a, b] = true then resS (endsV plus plus a [b]) else sp0

theorem RowIn.of_blk2 {w : World} {g : Nat} {e : TypeId} {cs : Array Value} {l : List Sp} (h : Blk w g e cs) (hc : cs.toList = l.flatMap encP) (hm : l.length ≤ maxLen) :
    RowIn w (.slice (some ⟨g, 0, none⟩) l.length l.length) 2 encP l := by
  have hl : (l.flatMap encP).length = l.length * 2 := rowOf_length encP_len l
  have hs : cs.size = l.length * 2 := by rw [← hl, ← hc]; simp
  refine RowIn.of_own (base := 0) (e := e) encP_len ⟨hl, .inr ⟨g, l.length, cs, rfl, Nat.zero_le _, h, Nat.le_refl _, hm, hs, ?_⟩⟩
  rw [hc, List.take_of_length_le (by omega)]

set_option maxHeartbeats 1000000 in
theorem add_any (a b : Sp) (w : World) : Calls Try.prog 18 #[.agg #[.int .i64 (a).lo, .int .i64 (a).hi], .agg #[.int .i64 (b).lo, .int .i64 (b).hi]] w fun e w' => e = .returned (.tuple #[.agg #[.int .i64 (addS a b).lo, .int .i64 (addS a b).hi], .int .i64 (addE a b)]) ∧ Below w.heap.size w w' := by
  have BA : Blk ((((w.alloc (.cells #[.int .i64 a.lo, .int .i64 a.hi] 23)).alloc (.cells #[.int .i64 b.lo, .int .i64 b.hi] 23)).alloc (.cells #[.int .i64 0, .int .i64 0] 23))) w.heap.size 23 #[.int .i64 a.lo, .int .i64 a.hi] := ((Blk.new w 23 #[.int .i64 a.lo, .int .i64 a.hi]).alloc _).alloc _
  have BB : Blk ((((w.alloc (.cells #[.int .i64 a.lo, .int .i64 a.hi] 23)).alloc (.cells #[.int .i64 b.lo, .int .i64 b.hi] 23)).alloc (.cells #[.int .i64 0, .int .i64 0] 23))) (w.heap.size + 1) 23 #[.int .i64 b.lo, .int .i64 b.hi] := by
    have := (Blk.new (w.alloc (.cells #[.int .i64 a.lo, .int .i64 a.hi] 23)) 23 #[.int .i64 b.lo, .int .i64 b.hi]).alloc (.cells #[.int .i64 0, .int .i64 0] 23)
    simpa using this
  have BZ : Blk ((((w.alloc (.cells #[.int .i64 a.lo, .int .i64 a.hi] 23)).alloc (.cells #[.int .i64 b.lo, .int .i64 b.hi] 23)).alloc (.cells #[.int .i64 0, .int .i64 0] 23))) (w.heap.size + 2) 23 #[.int .i64 0, .int .i64 0] := by
    have := Blk.new ((w.alloc (.cells #[.int .i64 a.lo, .int .i64 a.hi] 23)).alloc (.cells #[.int .i64 b.lo, .int .i64 b.hi] 23)) 23 #[.int .i64 0, .int .i64 0]
    simpa using this
  have hb : Below w.heap.size w ((((w.alloc (.cells #[.int .i64 a.lo, .int .i64 a.hi] 23)).alloc (.cells #[.int .i64 b.lo, .int .i64 b.hi] 23)).alloc (.cells #[.int .i64 0, .int .i64 0] 23))) := by repeat (first | (with_reducible exact Below.refl _ _) | (with_reducible assumption) | (with_reducible refine Below.drew ?_) | ((with_reducible refine Below.alloc ?_ ?_ _); rotate_left; (first | (with_reducible exact Nat.zero_le _) | (with_reducible exact Nat.le_refl _) | omega | (dsimp only; omega) | (simp only [World.size_alloc, World.size_setCell, World.size_drew]; omega))) | ((with_reducible refine Below.setCell ?_ ?_ _); rotate_left; (first | (with_reducible exact Nat.zero_le _) | (with_reducible exact Nat.le_refl _) | omega | (dsimp only; omega) | (simp only [World.size_alloc, World.size_setCell, World.size_drew]; omega))))
  have hE : addE a b = if allV [a, b] = true then resE (endsV plus plus a [b]) else 1 := rfl
  have hS : addS a b = if allV [a, b] = true then resS (endsV plus plus a [b]) else sp0 := rfl
  have hva := fun w v h => valids_any (w := w) (v := v) (l := [a, b]) h
  have hen := fun (w : World) (v : Value) h (h1 : sval a = true) (h2 : allV [b] = true) => ends_sum (w := w) (v := v) a (l := [b]) h h1 h2 (by simp)
  have hre := fun w => result_any (endsV plus plus a [b]) w
  have h1 : allV [a, b] = true → sval a = true := fun h => allV_mem h (by simp)
  have h2 : allV [a, b] = true → allV [b] = true := fun h => by unfold allV at *; simp at h ⊢; exact h.2
  generalize allV [a, b] = c at *
  generalize resE (endsV plus plus a [b]) = rE at *
  generalize resS (endsV plus plus a [b]) = rS at *
  generalize endsV plus plus a [b] = eS at *
  cases c with
  | false =>
    rw [if_neg (by simp)] at hE hS
    rw [hE, hS]
    clear hE hS h1 h2 hen hre
    go_enter Try.func18, Try.ntmps18
    go_wp2_with fail
    have BL := Blk.new ((((w.alloc (.cells #[.int .i64 a.lo, .int .i64 a.hi] 23)).alloc (.cells #[.int .i64 b.lo, .int .i64 b.hi] 23)).alloc (.cells #[.int .i64 0, .int .i64 0] 23))) 23 #[.int .i64 a.lo, .int .i64 a.hi, .int .i64 b.lo, .int .i64 b.hi]
    simp only [World.size_alloc] at BL
    replace BZ := BZ.alloc (.cells #[.int .i64 a.lo, .int .i64 a.hi, .int .i64 b.lo, .int .i64 b.hi] 23)
    replace hb := hb.alloc hb.size (.cells #[.int .i64 a.lo, .int .i64 a.hi, .int .i64 b.lo, .int .i64 b.hi] 23)
    refine (hva _ _ (RowIn.of_blk2 (l := [a, b]) BL (by rfl) (by simp [maxLen]))).mono ?_
    rintro e w1 ⟨rfl, hb1⟩
    replace BZ := BZ.step hb1
    replace hb := hb.trans (hb1.mono hb.size)
    have cz := BZ.cell
    have fz := BZ.free
    have lz := BZ.lt
    clear BA BB BL
    go_wp2_with fail
    refine bodyPost_ret (v := .tuple #[.agg #[.int .i64 0, .int .i64 0], .int .i64 1]) (by simp only [results, Try.results18]; go_simp; first | done | rfl) rfl ⟨rfl, ?_⟩
    repeat (first | (with_reducible exact Below.refl _ _) | (with_reducible assumption) | (with_reducible refine Below.drew ?_) | ((with_reducible refine Below.alloc ?_ ?_ _); rotate_left; (first | (with_reducible exact Nat.zero_le _) | (with_reducible exact Nat.le_refl _) | omega | (dsimp only; omega) | (simp only [World.size_alloc, World.size_setCell, World.size_drew]; omega))) | ((with_reducible refine Below.setCell ?_ ?_ _); rotate_left; (first | (with_reducible exact Nat.zero_le _) | (with_reducible exact Nat.le_refl _) | omega | (dsimp only; omega) | (simp only [World.size_alloc, World.size_setCell, World.size_drew]; omega))))
  | true =>
    rw [if_pos rfl] at hE hS
    rw [hE, hS]
    replace h1 := h1 rfl
    replace h2 := h2 rfl
    clear hE hS
    go_enter Try.func18, Try.ntmps18
    go_wp2_with fail
    have BL := Blk.new ((((w.alloc (.cells #[.int .i64 a.lo, .int .i64 a.hi] 23)).alloc (.cells #[.int .i64 b.lo, .int .i64 b.hi] 23)).alloc (.cells #[.int .i64 0, .int .i64 0] 23))) 23 #[.int .i64 a.lo, .int .i64 a.hi, .int .i64 b.lo, .int .i64 b.hi]
    simp only [World.size_alloc] at BL
    replace BA := BA.alloc (.cells #[.int .i64 a.lo, .int .i64 a.hi, .int .i64 b.lo, .int .i64 b.hi] 23)
    replace BB := BB.alloc (.cells #[.int .i64 a.lo, .int .i64 a.hi, .int .i64 b.lo, .int .i64 b.hi] 23)
    replace BZ := BZ.alloc (.cells #[.int .i64 a.lo, .int .i64 a.hi, .int .i64 b.lo, .int .i64 b.hi] 23)
    replace hb := hb.alloc hb.size (.cells #[.int .i64 a.lo, .int .i64 a.hi, .int .i64 b.lo, .int .i64 b.hi] 23)
    refine (hva _ _ (RowIn.of_blk2 (l := [a, b]) BL (by rfl) (by simp [maxLen]))).mono ?_
    rintro e w1 ⟨rfl, hb1⟩
    replace BA := BA.step hb1
    replace BB := BB.step hb1
    replace BZ := BZ.step hb1
    replace hb := hb.trans (hb1.mono hb.size)
    clear BL
    have ca := BA.cell
    have la := BA.lt
    have cb := BB.cell
    have lb := BB.lt
    have cz := BZ.cell
    have fz := BZ.free
    have lz := BZ.lt
    go_wp2_with fail
    clear ca la cb lb cz fz lz
    have BL := Blk.new w1 23 #[.int .i64 b.lo, .int .i64 b.hi]
    replace BZ := BZ.alloc (.cells #[.int .i64 b.lo, .int .i64 b.hi] 23)
    replace hb := hb.alloc hb.size (.cells #[.int .i64 b.lo, .int .i64 b.hi] 23)
    clear BA BB
    refine (hen _ _ (RowIn.of_blk2 (l := [b]) BL (by rfl) (by simp [maxLen])) h1 h2).mono ?_
    rintro e w2 ⟨rfl, hb2⟩
    replace BZ := BZ.step hb2
    replace hb := hb.trans (hb2.mono hb.size)
    clear BL h1 h2 hen hva
    go_wp2_with fail
    refine (hre _).mono ?_
    rintro e w3 ⟨rfl, hb3⟩
    replace BZ := BZ.step hb3
    replace hb := hb.trans (hb3.mono hb.size)
    have cz := BZ.cell
    have fz := BZ.free
    have lz := BZ.lt
    go_wp2_with fail
    refine bodyPost_ret (v := .tuple #[.agg #[.int .i64 (rS).lo, .int .i64 (rS).hi], .int .i64 (rE)]) (by simp only [results, Try.results18]; go_simp; first | done | rfl) rfl ⟨rfl, ?_⟩
    repeat (first | (with_reducible exact Below.refl _ _) | (with_reducible assumption) | (with_reducible refine Below.drew ?_) | ((with_reducible refine Below.alloc ?_ ?_ _); rotate_left; (first | (with_reducible exact Nat.zero_le _) | (with_reducible exact Nat.le_refl _) | omega | (dsimp only; omega) | (simp only [World.size_alloc, World.size_setCell, World.size_drew]; omega))) | ((with_reducible refine Below.setCell ?_ ?_ _); rotate_left; (first | (with_reducible exact Nat.zero_le _) | (with_reducible exact Nat.le_refl _) | omega | (dsimp only; omega) | (simp only [World.size_alloc, World.size_setCell, World.size_drew]; omega))))

end Go.Proofs.Ytpclhjkamplmbaa
