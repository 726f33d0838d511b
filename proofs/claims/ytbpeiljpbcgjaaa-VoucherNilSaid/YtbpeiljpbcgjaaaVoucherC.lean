/- Contracts: Open, Lapsed and Totals of a book. -/
import Derived.Test.YtbpeiljpbcgjaaaVoucherB
namespace Go.Proofs.Ytbpeiljpbcgjaaa
set_option linter.unusedVariables false
set_option linter.unusedSimpArgs false
open Go.RowKit


theorem open_any {w : World} {base b : Nat} {sv : Value} {B : Bk} (hB : Holds w base b sv B) (hok : BkOk B) (t : Int) :
    Calls Try.prog 19 #[.pointer (some ⟨b, 0, none⟩), .int .i64 t] w fun e w' => e = .returned (.tuple #[.int .i64 (openV B t), .int .i64 (momE B t)]) ∧ Below w.heap.size w w' := by
  have hV : openV B t = if momE B t = 0 then sumIf (isOpen t) B.es else 0 := rfl
  have B0 := Blk.new w 3 #[.int .i64 t]
  have c0 := B0.cell
  have hB1 := hB.step (w' := w.alloc (.cells #[.int .i64 t] 3)) ((Below.refl _ _).alloc (Nat.le_refl _) _)
  go_enter Try.func19, Try.ntmps19
  go_wp2_with fail
  refine (moment_any hB1 t).mono ?_
  rintro e w' ⟨rfl, rfl⟩
  by_cases hm : momE B t = 0
  · rw [if_pos hm] at hV
    rw [hm]
    go_wp2_with fail
    refine (sum_open hB1 hok #[.pointer (some ⟨w.heap.size, 0, none⟩)] (isOpen t) fun x w' hb => open1_any x t w.heap.size w' (B0.step hb)).mono ?_
    rintro e w1 ⟨rfl, hb1⟩
    go_wp2_with fail
    go_ret2
    refine ⟨by rw [hV, hm]; rfl, ?_⟩
    have z1 := hb1.size; (try simp only [World.size_alloc, World.size_setCell] at z1); skip
    (repeat (first | exact Below.refl _ _ | refine Below.setCell ?_ (by first | omega | (simp; done) | (simp; omega) | (simp only [World.size_alloc, World.size_setCell] at *; omega)) _ | refine Below.alloc ?_ (by first | omega | (simp; done) | (simp; omega) | (simp only [World.size_alloc, World.size_setCell] at *; omega)) _ | refine Below.trans ?_ (Below.mono (by assumption) (by first | omega | (simp; done) | (simp; omega) | (simp only [World.size_alloc, World.size_setCell] at *; omega)))))
  · rw [if_neg hm] at hV
    generalize hE : momE B t = E at hm hV ⊢
    go_wp2_with fail
    go_ret2
    refine ⟨by rw [hV, hE]; rfl, ?_⟩
    (repeat (first | exact Below.refl _ _ | refine Below.setCell ?_ (by first | omega | (simp; done) | (simp; omega) | (simp only [World.size_alloc, World.size_setCell] at *; omega)) _ | refine Below.alloc ?_ (by first | omega | (simp; done) | (simp; omega) | (simp only [World.size_alloc, World.size_setCell] at *; omega)) _ | refine Below.trans ?_ (Below.mono (by assumption) (by first | omega | (simp; done) | (simp; omega) | (simp only [World.size_alloc, World.size_setCell] at *; omega)))))
theorem lapsed_any {w : World} {base b : Nat} {sv : Value} {B : Bk} (hB : Holds w base b sv B) (hok : BkOk B) (t : Int) :
    Calls Try.prog 20 #[.pointer (some ⟨b, 0, none⟩), .int .i64 t] w fun e w' => e = .returned (.tuple #[.int .i64 (lapV B t), .int .i64 (momE B t)]) ∧ Below w.heap.size w w' := by
  have hV : lapV B t = if momE B t = 0 then sumIf (isLapsed t) B.es else 0 := rfl
  have B0 := Blk.new w 3 #[.int .i64 t]
  have c0 := B0.cell
  have hB1 := hB.step (w' := w.alloc (.cells #[.int .i64 t] 3)) ((Below.refl _ _).alloc (Nat.le_refl _) _)
  go_enter Try.func20, Try.ntmps20
  go_wp2_with fail
  refine (moment_any hB1 t).mono ?_
  rintro e w' ⟨rfl, rfl⟩
  by_cases hm : momE B t = 0
  · rw [if_pos hm] at hV
    rw [hm]
    go_wp2_with fail
    refine (sum_lapsed hB1 hok #[.pointer (some ⟨w.heap.size, 0, none⟩)] (isLapsed t) fun x w' hb => lapsed1_any x t w.heap.size w' (B0.step hb)).mono ?_
    rintro e w1 ⟨rfl, hb1⟩
    go_wp2_with fail
    go_ret2
    refine ⟨by rw [hV, hm]; rfl, ?_⟩
    have z1 := hb1.size; (try simp only [World.size_alloc, World.size_setCell] at z1); skip
    (repeat (first | exact Below.refl _ _ | refine Below.setCell ?_ (by first | omega | (simp; done) | (simp; omega) | (simp only [World.size_alloc, World.size_setCell] at *; omega)) _ | refine Below.alloc ?_ (by first | omega | (simp; done) | (simp; omega) | (simp only [World.size_alloc, World.size_setCell] at *; omega)) _ | refine Below.trans ?_ (Below.mono (by assumption) (by first | omega | (simp; done) | (simp; omega) | (simp only [World.size_alloc, World.size_setCell] at *; omega)))))
  · rw [if_neg hm] at hV
    generalize hE : momE B t = E at hm hV ⊢
    go_wp2_with fail
    go_ret2
    refine ⟨by rw [hV, hE]; rfl, ?_⟩
    (repeat (first | exact Below.refl _ _ | refine Below.setCell ?_ (by first | omega | (simp; done) | (simp; omega) | (simp only [World.size_alloc, World.size_setCell] at *; omega)) _ | refine Below.alloc ?_ (by first | omega | (simp; done) | (simp; omega) | (simp only [World.size_alloc, World.size_setCell] at *; omega)) _ | refine Below.trans ?_ (Below.mono (by assumption) (by first | omega | (simp; done) | (simp; omega) | (simp only [World.size_alloc, World.size_setCell] at *; omega)))))

theorem totals_any {w : World} {base b : Nat} {sv : Value} {B : Bk} (hB : Holds w base b sv B) (hok : BkOk B) :
    Calls Try.prog 17 #[.pointer (some ⟨b, 0, none⟩)] w fun e w' => e = .returned (.tuple #[.int .i64 (totV B), .int .i64 (paidV B)]) ∧ Below w.heap.size w w' := by
  go_enter Try.func17, Try.ntmps17
  go_wp2_with fail
  refine (sum_tot1 hB hok #[] (fun _ => true) fun x w' hb => tot1_any x w').mono ?_
  rintro e w1 ⟨rfl, hb1⟩
  have hB1 := hB.step hb1
  go_wp2_with fail
  refine (sum_tot2 hB1 hok #[] (fun x => x.red) fun x w' hb => tot2_any x w').mono ?_
  rintro e w2 ⟨rfl, hb2⟩
  go_wp2_with fail
  go_ret2
  refine ⟨rfl, hb1.trans (hb2.mono hb1.size)⟩

end Go.Proofs.Ytbpeiljpbcgjaaa
