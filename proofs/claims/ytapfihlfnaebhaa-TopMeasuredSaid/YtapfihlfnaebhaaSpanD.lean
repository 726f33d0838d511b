/- Contracts: Sub and Sum of the program. -/
import Derived.Test.YtapfihlfnaebhaaSpanC
namespace Go.Proofs.Ytapfihlfnaebhaa
set_option linter.unusedVariables false
set_option linter.unusedSimpArgs false
open Go.RowKit


set_option maxHeartbeats 1000000 in
theorem sumL_any {w : World} {v : Value} {l : List Sp} (hl : RowIn w v 2 encP l) : Calls Try.prog 52 #[v] w fun e w' => e = .returned (.tuple #[.agg #[.int .i64 (sumS l).lo, .int .i64 (sumS l).hi], .int .i64 (sumE l)]) ∧ Below w.heap.size w w' := by
  obtain ⟨oa, cap, hv, hlc1, hlc2, _, _⟩ := hl.at_
  unfold maxLen at hlc2
  subst hv
  have hE : sumE l = if l.length > 65536 then 8 else if allV l = true then resE (endsV plus plus sp0 l) else 1 := rfl
  have hS : sumS l = if l.length > 65536 then sp0 else if allV l = true then resS (endsV plus plus sp0 l) else sp0 := rfl
  have BZ := Blk.new w 32 #[.int .i64 0, .int .i64 0]
  have hb : Below w.heap.size w (w.alloc (.cells #[.int .i64 0, .int .i64 0] 32)) := by repeat (first | (with_reducible exact Below.refl _ _) | (with_reducible assumption) | (with_reducible refine Below.drew ?_) | ((with_reducible refine Below.alloc ?_ ?_ _); rotate_left; (first | (with_reducible exact Nat.zero_le _) | (with_reducible exact Nat.le_refl _) | omega | (dsimp only; omega) | (simp only [World.size_alloc, World.size_setCell, World.size_drew]; omega))) | ((with_reducible refine Below.setCell ?_ ?_ _); rotate_left; (first | (with_reducible exact Nat.zero_le _) | (with_reducible exact Nat.le_refl _) | omega | (dsimp only; omega) | (simp only [World.size_alloc, World.size_setCell, World.size_drew]; omega))))
  have hl1 := hl.step (w' := w.alloc (.cells #[.int .i64 0, .int .i64 0] 32)) (by repeat (first | (with_reducible exact Below.refl _ _) | (with_reducible assumption) | (with_reducible refine Below.drew ?_) | ((with_reducible refine Below.alloc ?_ ?_ _); rotate_left; (first | (with_reducible exact Nat.zero_le _) | (with_reducible exact Nat.le_refl _) | omega | (dsimp only; omega) | (simp only [World.size_alloc, World.size_setCell, World.size_drew]; omega))) | ((with_reducible refine Below.setCell ?_ ?_ _); rotate_left; (first | (with_reducible exact Nat.zero_le _) | (with_reducible exact Nat.le_refl _) | omega | (dsimp only; omega) | (simp only [World.size_alloc, World.size_setCell, World.size_drew]; omega)))))
  have hva := fun w h => valids_any (w := w) (v := .slice oa l.length cap) (l := l) h
  by_cases h : l.length > 65536
  · rw [if_pos h] at hE hS
    rw [hE, hS]
    have h' : (l.length : Int) > 65536 := by omega
    clear hE hS
    go_enter Try.func52, Try.ntmps52
    go_wp2_with fail
    refine bodyPost_ret (v := .tuple #[.agg #[.int .i64 0, .int .i64 0], .int .i64 8]) (by simp only [results, Try.results52]; go_simp; first | done | rfl) rfl ⟨rfl, ?_⟩
    repeat (first | (with_reducible exact Below.refl _ _) | (with_reducible assumption) | (with_reducible refine Below.drew ?_) | ((with_reducible refine Below.alloc ?_ ?_ _); rotate_left; (first | (with_reducible exact Nat.zero_le _) | (with_reducible exact Nat.le_refl _) | omega | (dsimp only; omega) | (simp only [World.size_alloc, World.size_setCell, World.size_drew]; omega))) | ((with_reducible refine Below.setCell ?_ ?_ _); rotate_left; (first | (with_reducible exact Nat.zero_le _) | (with_reducible exact Nat.le_refl _) | omega | (dsimp only; omega) | (simp only [World.size_alloc, World.size_setCell, World.size_drew]; omega))))
  rw [if_neg h] at hE hS
  have h' : ¬ (l.length : Int) > 65536 := by omega
  have hen := fun (w : World) h (h2 : allV l = true) => ends_sum (w := w) (v := .slice oa l.length cap) sp0 (l := l) h (by decide) h2 (by omega)
  have hre := fun w => result_any (endsV plus plus sp0 l) w
  generalize allV l = c at *
  generalize resE (endsV plus plus sp0 l) = rE at *
  generalize resS (endsV plus plus sp0 l) = rS at *
  generalize endsV plus plus sp0 l = eS at *
  cases c with
  | false =>
    rw [if_neg (by simp)] at hE hS
    rw [hE, hS]
    clear hE hS hen hre
    go_enter Try.func52, Try.ntmps52
    go_wp2_with fail
    refine (hva _ hl1).mono ?_
    rintro e w1 ⟨rfl, hb1⟩
    replace BZ := BZ.step hb1
    replace hb := hb.trans (hb1.mono hb.size)
    have cz := BZ.cell
    have fz := BZ.free
    have lz := BZ.lt
    go_wp2_with fail
    refine bodyPost_ret (v := .tuple #[.agg #[.int .i64 0, .int .i64 0], .int .i64 1]) (by simp only [results, Try.results52]; go_simp; first | done | rfl) rfl ⟨rfl, ?_⟩
    repeat (first | (with_reducible exact Below.refl _ _) | (with_reducible assumption) | (with_reducible refine Below.drew ?_) | ((with_reducible refine Below.alloc ?_ ?_ _); rotate_left; (first | (with_reducible exact Nat.zero_le _) | (with_reducible exact Nat.le_refl _) | omega | (dsimp only; omega) | (simp only [World.size_alloc, World.size_setCell, World.size_drew]; omega))) | ((with_reducible refine Below.setCell ?_ ?_ _); rotate_left; (first | (with_reducible exact Nat.zero_le _) | (with_reducible exact Nat.le_refl _) | omega | (dsimp only; omega) | (simp only [World.size_alloc, World.size_setCell, World.size_drew]; omega))))
  | true =>
    rw [if_pos rfl] at hE hS
    rw [hE, hS]
    replace hen := fun w h => hen w h rfl
    clear hE hS
    unfold sp0 at hen
    go_enter Try.func52, Try.ntmps52
    go_wp2_with fail
    refine (hva _ hl1).mono ?_
    rintro e w1 ⟨rfl, hb1⟩
    replace BZ := BZ.step hb1
    replace hb := hb.trans (hb1.mono hb.size)
    replace hl1 := hl1.step hb1
    go_wp2_with fail
    refine (hen _ hl1).mono ?_
    rintro e w2 ⟨rfl, hb2⟩
    replace BZ := BZ.step hb2
    replace hb := hb.trans (hb2.mono hb.size)
    clear hen hva
    go_wp2_with fail
    refine (hre _).mono ?_
    rintro e w3 ⟨rfl, hb3⟩
    replace BZ := BZ.step hb3
    replace hb := hb.trans (hb3.mono hb.size)
    have cz := BZ.cell
    have fz := BZ.free
    have lz := BZ.lt
    go_wp2_with fail
    refine bodyPost_ret (v := .tuple #[.agg #[.int .i64 (rS).lo, .int .i64 (rS).hi], .int .i64 (rE)]) (by simp only [results, Try.results52]; go_simp; first | done | rfl) rfl ⟨rfl, ?_⟩
    repeat (first | (with_reducible exact Below.refl _ _) | (with_reducible assumption) | (with_reducible refine Below.drew ?_) | ((with_reducible refine Below.alloc ?_ ?_ _); rotate_left; (first | (with_reducible exact Nat.zero_le _) | (with_reducible exact Nat.le_refl _) | omega | (dsimp only; omega) | (simp only [World.size_alloc, World.size_setCell, World.size_drew]; omega))) | ((with_reducible refine Below.setCell ?_ ?_ _); rotate_left; (first | (with_reducible exact Nat.zero_le _) | (with_reducible exact Nat.le_refl _) | omega | (dsimp only; omega) | (simp only [World.size_alloc, World.size_setCell, World.size_drew]; omega))))

def negW (n : Int) : Int := IntKind.i64.wrap (-n)
theorem negW_eq {n : Int} (h : IntKind.i64.has n) : negW n = if n = -9223372036854775808 then n else -n := by
  have h1 : -9223372036854775808 ≤ n := h.1
  have h2 : n ≤ 9223372036854775807 := h.2
  unfold negW
  by_cases he : n = -9223372036854775808
  · subst he; rfl
  · rw [if_neg he]
    exact wrapI _ (by omega)

end Go.Proofs.Ytapfihlfnaebhaa
