/- A book of vouchers in memory, and the contracts of the functions that only read it. -/
import Derived.Test.YtbpeiljpbcgjaaaProg
import Derived.Test.YtbpeiljpbcgjaaaVoucherP
import Derived.Test.YtbpeiljpbcgjaaaFrame
namespace Go.Proofs.Ytbpeiljpbcgjaaa
set_option linter.unusedVariables false
set_option linter.unusedSimpArgs false
open Go.RowKit

def encV (e : Ent) : List Value := [.int .i64 e.num, .int .i64 e.mach, .int .i64 e.amt, .int .i64 e.at_, .int .i64 e.til]
def encE (e : Ent) : List Value := [.int .i64 e.num, .int .i64 e.mach, .int .i64 e.amt, .int .i64 e.at_, .int .i64 e.til, .bool e.red]
theorem encV_len (e : Ent) : (encV e).length = 5 := rfl
theorem encE_len (e : Ent) : (encE e).length = 6 := rfl

/-- The types of the blocks that a book's calls may change. -/
def TB (t : TypeId) : Bool := t == 65 || t == 74

/-- Block b holds the book B, whose vouchers lie in the row sv. -/
structure Holds (w : World) (base b : Nat) (sv : Value) (B : Bk) : Prop where
  hb : base ≤ b
  blk : Blk w b 65 #[.int .i64 B.valid, .int .i64 B.now, sv]
  own : w.ownsRow base 74 6 sv B.es.length (rowOf encE B.es)

theorem Holds.frT {w w' : World} {base b : Nat} {sv : Value} {B : Bk} (h : Holds w base b sv B) {T : TypeId → Bool} {B' : Nat} (hf : FrT B' T w w') (h1 : T 65 = false) (h2 : T 74 = false) : Holds w' base b sv B :=
  ⟨h.hb, h.blk.frT hf (.inr h1), ownsRow_frT h.own hf h2⟩
theorem Holds.step {w w' : World} {base b : Nat} {sv : Value} {B : Bk} (h : Holds w base b sv B) (hb : Below w.heap.size w w') : Holds w' base b sv B :=
  h.frT (T := fun _ => false) (B' := 0) (.of_below hb) rfl rfl


theorem moment_any {w : World} {base b : Nat} {sv : Value} {B : Bk} (h : Holds w base b sv B) (t : Int) :
    Calls Try.prog 29 #[.pointer (some ⟨b, 0, none⟩), .int .i64 t] w fun e w' => e = .returned (.int .i64 (momE B t)) ∧ w' = w := by
  have c0 := h.blk.cell
  have hE : momE B t = if t < 0 ∨ t > 3155759999 then 1 else if t < B.now then 9 else 0 := rfl
  generalize momE B t = E at hE ⊢
  by_cases h1 : t < 0 ∨ t > 3155759999
  · rw [if_pos h1] at hE
    subst hE
    rcases h1 with h1 | h1
    · go_enter Try.func29, Try.ntmps29
      go_wp2_with fail
      go_ret
      exact ⟨rfl, rfl⟩
    · have h1' : ¬ t < 0 := by omega
      go_enter Try.func29, Try.ntmps29
      go_wp2_with fail
      go_ret
      exact ⟨rfl, rfl⟩
  · rw [if_neg h1] at hE
    have h1a : ¬ t < 0 := by omega
    have h1b : ¬ t > 3155759999 := by omega
    have h1c : ¬ 3155759999 < t := by omega
    by_cases h2 : t < B.now
    · rw [if_pos h2] at hE
      subst hE
      go_enter Try.func29, Try.ntmps29
      go_wp2_with fail
      go_ret
      exact ⟨rfl, rfl⟩
    · rw [if_neg h2] at hE
      subst hE
      go_enter Try.func29, Try.ntmps29
      go_wp2_with fail
      go_ret
      exact ⟨rfl, rfl⟩

theorem tot1_any (x : Ent) (w : World) : Calls Try.prog 27 #[.agg (encE x).toArray] w fun e w' => e = .returned (.bool true) ∧ Below w.heap.size w w' := by
  unfold encE
  have B0 := Blk.new w 74 (encE x).toArray
  go_enter Try.func27, Try.ntmps27
  go_wp2_with fail
  go_ret
  refine ⟨by simp, ?_⟩
  (repeat (first | exact Below.refl _ _ | refine Below.setCell ?_ (by first | omega | (simp; done) | (simp; omega) | (simp only [World.size_alloc, World.size_setCell] at *; omega)) _ | refine Below.alloc ?_ (by first | omega | (simp; done) | (simp; omega) | (simp only [World.size_alloc, World.size_setCell] at *; omega)) _ | refine Below.trans ?_ (Below.mono (by assumption) (by first | omega | (simp; done) | (simp; omega) | (simp only [World.size_alloc, World.size_setCell] at *; omega)))))

theorem tot2_any (x : Ent) (w : World) : Calls Try.prog 28 #[.agg (encE x).toArray] w fun e w' => e = .returned (.bool x.red) ∧ Below w.heap.size w w' := by
  unfold encE
  have B0 := Blk.new w 74 (encE x).toArray
  have c0 := B0.cell
  go_enter Try.func28, Try.ntmps28
  go_wp2_with fail
  go_ret
  refine ⟨by simp, ?_⟩
  (repeat (first | exact Below.refl _ _ | refine Below.setCell ?_ (by first | omega | (simp; done) | (simp; omega) | (simp only [World.size_alloc, World.size_setCell] at *; omega)) _ | refine Below.alloc ?_ (by first | omega | (simp; done) | (simp; omega) | (simp only [World.size_alloc, World.size_setCell] at *; omega)) _ | refine Below.trans ?_ (Below.mono (by assumption) (by first | omega | (simp; done) | (simp; omega) | (simp only [World.size_alloc, World.size_setCell] at *; omega)))))

end Go.Proofs.Ytbpeiljpbcgjaaa
