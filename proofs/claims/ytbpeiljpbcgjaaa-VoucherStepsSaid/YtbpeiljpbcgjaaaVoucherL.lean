/- Contracts: Issue whatever comes, the law's span and step. -/
import Derived.Test.YtbpeiljpbcgjaaaVoucherF
import Derived.Test.YtbpeiljpbcgjaaaTy
namespace Go.Proofs.Ytbpeiljpbcgjaaa
set_option linter.unusedVariables false
set_option linter.unusedSimpArgs false
open Go.RowKit


theorem issue_any {w : World} {base b : Nat} {sv : Value} {B : Bk} (hB : Holds w base b sv B) (hok : BkOk B) (hbw : base ≤ w.heap.size) (m a t : Int) :
    Calls Try.prog 22 #[.pointer (some ⟨b, 0, none⟩), .int .i64 m, .int .i64 a, .int .i64 t] w fun e w' => e = .returned (.tuple #[.agg (encV (issV B m a t)).toArray, .int .i64 (issE B m a t)]) ∧ ∃ sv', Holds w' base b sv' (issB B m a t) ∧ FrT base TB w w' := by
  by_cases h : issE B m a t = 0
  · refine (issue_ok hB hok hbw m a t h).mono ?_
    rintro e w' ⟨rfl, sv', h1, h2⟩
    refine ⟨?_, sv', ?_, h2⟩
    · unfold issV; rw [if_pos h, h]
    · unfold issB; rw [if_pos h]; exact h1
  · refine (issue_no hB hok m a t h).mono ?_
    rintro e w' ⟨rfl, hb⟩
    refine ⟨?_, sv, ?_, .of_below hb⟩
    · unfold issV; rw [if_neg h]
    · unfold issB; rw [if_neg h]; exact hB.step hb

def spanV (n : Int) : Int := 1 + n % 31622400
theorem spanV_bd {n : Int} (h : 0 ≤ n) : 1 ≤ spanV n ∧ spanV n ≤ 31622400 := by unfold spanV; omega
theorem span_any (n : Int) (h0 : 0 ≤ n) (h1 : n < 4294967296) (w : World) : Calls Try.prog 14 #[.int .u32 n] w fun e w' => e = .returned (.int .i64 (spanV n)) ∧ w' = w := by
  have hs : spanV n = 1 + n % 31622400 := rfl
  have hb := spanV_bd h0
  generalize spanV n = S at hs hb ⊢
  have ht : n.tmod 31622400 = n % 31622400 := Int.tmod_eq_emod_of_nonneg h0
  go_enter Try.func14, Try.ntmps14
  go_wp2_with fail
  go_ret
  refine ⟨?_, rfl⟩
  subst hs
  simp [*]

/-- A call of a step: what it makes of the book, the voucher, the number, the error. -/
structure Stp where
  kind : Int
  a : Int
  b : Int
  at_ : Int
def stB (B : Bk) (s : Stp) : Bk := if s.kind = 0 then issB B s.a s.b s.at_ else if s.kind = 1 then redB B s.a s.at_ else B
def stV (B : Bk) (s : Stp) : Ent := if s.kind = 0 then issV B s.a s.b s.at_ else ent0
def stN (B : Bk) (s : Stp) : Int := if s.kind = 0 then 0 else if s.kind = 1 then redV B s.a s.at_ else if s.kind = 2 then openV B s.at_ else lapV B s.at_
def stE (B : Bk) (s : Stp) : Int := if s.kind = 0 then issE B s.a s.b s.at_ else if s.kind = 1 then redE B s.a s.at_ else momE B s.at_
theorem stB_ok {B : Bk} (h : BkOk B) (s : Stp) : BkOk (stB B s) := by
  unfold stB
  split
  · exact issB_ok h _ _ _
  split
  · exact redB_ok h _ _
  exact h

def encS (s : Stp) : List Value := [.int .i64 s.kind, .int .i64 s.a, .int .i64 s.b, .int .i64 s.at_]
theorem encS_len (s : Stp) : (encS s).length = 4 := rfl

def stOut (w : World) (base b : Nat) (B : Bk) (s : Stp) (e : Ending) (w' : World) : Prop :=
  e = .returned (.tuple #[.agg (encV (stV B s)).toArray, .int .i64 (stN B s), .int .i64 (stE B s)]) ∧ ∃ sv', Holds w' base b sv' (stB B s) ∧ FrT base TB w w'

set_option maxHeartbeats 1000000 in
theorem step_any {w : World} {base b : Nat} {sv : Value} {B : Bk} (hB : Holds w base b sv B) (hok : BkOk B) (hbw : base ≤ w.heap.size) (s : Stp) :
    Calls Try.prog 15 #[.pointer (some ⟨b, 0, none⟩), .agg (encS s).toArray] w (stOut w base b B s) := by
  obtain ⟨k, a, b', t⟩ := s
  have B0 := Blk.new w 42 #[.int .i64 k, .int .i64 a, .int .i64 b', .int .i64 t]
  have B1 : Blk ((w.alloc (.cells #[.int .i64 k, .int .i64 a, .int .i64 b', .int .i64 t] 42)).alloc (.cells #[.int .i64 0, .int .i64 0, .int .i64 0, .int .i64 0, .int .i64 0] 38)) (w.heap.size + 1) 38 #[.int .i64 0, .int .i64 0, .int .i64 0, .int .i64 0, .int .i64 0] := by
    have := Blk.new (w.alloc (.cells #[.int .i64 k, .int .i64 a, .int .i64 b', .int .i64 t] 42)) 38 #[.int .i64 0, .int .i64 0, .int .i64 0, .int .i64 0, .int .i64 0]
    simpa using this
  replace B0 := B0.step (w' := (w.alloc (.cells #[.int .i64 k, .int .i64 a, .int .i64 b', .int .i64 t] 42)).alloc (.cells #[.int .i64 0, .int .i64 0, .int .i64 0, .int .i64 0, .int .i64 0] 38)) (by ((repeat (first | exact Below.refl _ _ | refine Below.drew ?_ | refine Below.alloc ?_ (by first | exact Nat.le_refl _ | omega | (simp only [World.size_alloc, World.size_drew, World.size_setCell]; omega)) _)); first | (fail_if_success (focus skip)) | fail))
  have hb : Below w.heap.size w ((w.alloc (.cells #[.int .i64 k, .int .i64 a, .int .i64 b', .int .i64 t] 42)).alloc (.cells #[.int .i64 0, .int .i64 0, .int .i64 0, .int .i64 0, .int .i64 0] 38)) := by ((repeat (first | exact Below.refl _ _ | refine Below.drew ?_ | refine Below.alloc ?_ (by first | exact Nat.le_refl _ | omega | (simp only [World.size_alloc, World.size_drew, World.size_setCell]; omega)) _)); first | (fail_if_success (focus skip)) | fail)
  have hF : FrT base TB w ((w.alloc (.cells #[.int .i64 k, .int .i64 a, .int .i64 b', .int .i64 t] 42)).alloc (.cells #[.int .i64 0, .int .i64 0, .int .i64 0, .int .i64 0, .int .i64 0] 38)) := .of_below hb
  have hB2 := hB.step hb
  have hne : k = 0 ∨ k = 1 ∨ k = 2 ∨ (k ≠ 0 ∧ k ≠ 1 ∧ k ≠ 2) := by omega
  have fin : ∀ (e : Ending) (w' : World) (v : Ent) (n er : Int) (B' : Bk), stV B ⟨k, a, b', t⟩ = v → stN B ⟨k, a, b', t⟩ = n → stE B ⟨k, a, b', t⟩ = er → stB B ⟨k, a, b', t⟩ = B' → 
      e = .returned (.tuple #[.agg (encV (v)).toArray, .int .i64 n, .int .i64 er]) → (∃ sv', Holds w' base b sv' B' ∧ FrT base TB w w') → stOut w base b B ⟨k, a, b', t⟩ e w' := by
    intro e w' v n er B' h1 h2 h3 h4 he h
    unfold stOut
    rw [h1, h2, h3, h4]
    exact ⟨he, h⟩
  unfold encS
  rcases hne with rfl | rfl | rfl | ⟨h0, h1, h2⟩
  · go_enter Try.func15, Try.ntmps15
    go_wp2_with fail
    refine (issue_any hB2 hok (by simp; omega) a b' t).mono ?_
    rintro e w1 ⟨rfl, sv', hB3, hf⟩
    have C1 := B1.frT hf (.inr rfl)
    have hF1 := hF.trans hf
    replace fin := Lib.hid (fin · · (issV B a b' t) 0 (issE B a b' t) (issB B a b' t) rfl rfl rfl rfl)
    generalize issV B a b' t = v at *
    unfold encV
    have c1 := C1.cell
    have f1 := C1.free
    have l1 := C1.lt
    have T1 := C1.ty
    go_wp2_with fail
    refine bodyPost_ret (v := .tuple #[.agg (encV v).toArray, .int .i64 (0), .int .i64 (issE B a b' t)]) (by simp only [results, Try.results15]; go_simp; first | done | rfl) rfl (fin.out _ _ rfl ⟨sv', ?_, ?_⟩)
    · exact (hB3).frT (T := fun t => !TB t) (B' := 0) (by repeat (first | (with_reducible exact FrT.refl _ _ _) | (with_reducible assumption) | (with_reducible refine FrT.drew ?_) | (with_reducible refine FrT.alloc ?_ _) | ((with_reducible refine FrT.setNew ?_ ?_ _); rotate_left; (first | (with_reducible exact Nat.zero_le _) | (with_reducible exact Nat.le_refl _) | omega | (dsimp only; omega) | (simp only [World.size_alloc, World.size_setCell, World.size_drew]; omega))) | ((with_reducible refine FrT.setT ?_ ?_ ?_ _); rotate_left; (first | (with_reducible exact Nat.zero_le _) | (with_reducible exact Nat.le_refl _) | omega | (dsimp only; omega) | (simp only [World.size_alloc, World.size_setCell, World.size_drew]; omega)); apply TyT.intro; (repeat (first | (with_reducible assumption) | (with_reducible apply Ty.set) | (with_reducible apply Ty.alloc) | (with_reducible apply Ty.drew) | (with_reducible exact Ty.new _ _ _ _))); rfl))) rfl rfl
    · repeat (first | (with_reducible exact FrT.refl _ _ _) | (with_reducible assumption) | (with_reducible refine FrT.drew ?_) | (with_reducible refine FrT.alloc ?_ _) | ((with_reducible refine FrT.setNew ?_ ?_ _); rotate_left; (first | (with_reducible exact Nat.zero_le _) | (with_reducible exact Nat.le_refl _) | omega | (dsimp only; omega) | (simp only [World.size_alloc, World.size_setCell, World.size_drew]; omega))) | ((with_reducible refine FrT.setT ?_ ?_ ?_ _); rotate_left; (first | (with_reducible exact Nat.zero_le _) | (with_reducible exact Nat.le_refl _) | omega | (dsimp only; omega) | (simp only [World.size_alloc, World.size_setCell, World.size_drew]; omega)); apply TyT.intro; (repeat (first | (with_reducible assumption) | (with_reducible apply Ty.set) | (with_reducible apply Ty.alloc) | (with_reducible apply Ty.drew) | (with_reducible exact Ty.new _ _ _ _))); rfl))
  · go_enter Try.func15, Try.ntmps15
    go_wp2_with fail
    refine (redeem_any hB2 hok a t).mono ?_
    rintro e w1 ⟨rfl, hB3, hf⟩
    replace hB3 : ∃ sv', Holds w1 base b sv' (redB B a t) := ⟨sv, hB3⟩
    obtain ⟨sv', hB3⟩ := hB3
    have C1 := B1.frT hf (.inr rfl)
    have hF1 := hF.trans hf
    replace fin := Lib.hid (fin · · ent0 (redV B a t) (redE B a t) (redB B a t) rfl rfl rfl rfl)
    have c1 := C1.cell
    have f1 := C1.free
    have l1 := C1.lt
    have T1 := C1.ty
    go_wp2_with fail
    refine bodyPost_ret (v := .tuple #[.agg (encV ent0).toArray, .int .i64 (redV B a t), .int .i64 (redE B a t)]) (by simp only [results, Try.results15]; go_simp; first | done | rfl) rfl (fin.out _ _ rfl ⟨sv', ?_, ?_⟩)
    · exact (hB3).frT (T := fun t => !TB t) (B' := 0) (by repeat (first | (with_reducible exact FrT.refl _ _ _) | (with_reducible assumption) | (with_reducible refine FrT.drew ?_) | (with_reducible refine FrT.alloc ?_ _) | ((with_reducible refine FrT.setNew ?_ ?_ _); rotate_left; (first | (with_reducible exact Nat.zero_le _) | (with_reducible exact Nat.le_refl _) | omega | (dsimp only; omega) | (simp only [World.size_alloc, World.size_setCell, World.size_drew]; omega))) | ((with_reducible refine FrT.setT ?_ ?_ ?_ _); rotate_left; (first | (with_reducible exact Nat.zero_le _) | (with_reducible exact Nat.le_refl _) | omega | (dsimp only; omega) | (simp only [World.size_alloc, World.size_setCell, World.size_drew]; omega)); apply TyT.intro; (repeat (first | (with_reducible assumption) | (with_reducible apply Ty.set) | (with_reducible apply Ty.alloc) | (with_reducible apply Ty.drew) | (with_reducible exact Ty.new _ _ _ _))); rfl))) rfl rfl
    · repeat (first | (with_reducible exact FrT.refl _ _ _) | (with_reducible assumption) | (with_reducible refine FrT.drew ?_) | (with_reducible refine FrT.alloc ?_ _) | ((with_reducible refine FrT.setNew ?_ ?_ _); rotate_left; (first | (with_reducible exact Nat.zero_le _) | (with_reducible exact Nat.le_refl _) | omega | (dsimp only; omega) | (simp only [World.size_alloc, World.size_setCell, World.size_drew]; omega))) | ((with_reducible refine FrT.setT ?_ ?_ ?_ _); rotate_left; (first | (with_reducible exact Nat.zero_le _) | (with_reducible exact Nat.le_refl _) | omega | (dsimp only; omega) | (simp only [World.size_alloc, World.size_setCell, World.size_drew]; omega)); apply TyT.intro; (repeat (first | (with_reducible assumption) | (with_reducible apply Ty.set) | (with_reducible apply Ty.alloc) | (with_reducible apply Ty.drew) | (with_reducible exact Ty.new _ _ _ _))); rfl))
  · go_enter Try.func15, Try.ntmps15
    go_wp2_with fail
    refine (open_any hB2 hok t).mono ?_
    rintro e w1 ⟨rfl, hb1⟩
    have hf : FrT base TB _ w1 := .of_below hb1
    obtain ⟨sv', hB3⟩ : ∃ sv', Holds w1 base b sv' B := ⟨sv, hB2.step hb1⟩
    have C1 := B1.step hb1
    have hF1 := hF.trans hf
    replace fin := Lib.hid (fin · · ent0 (openV B t) (momE B t) B rfl rfl rfl rfl)
    have c1 := C1.cell
    have f1 := C1.free
    have l1 := C1.lt
    have T1 := C1.ty
    go_wp2_with fail
    refine bodyPost_ret (v := .tuple #[.agg (encV ent0).toArray, .int .i64 (openV B t), .int .i64 (momE B t)]) (by simp only [results, Try.results15]; go_simp; first | done | rfl) rfl (fin.out _ _ rfl ⟨sv', ?_, ?_⟩)
    · exact (hB3).frT (T := fun t => !TB t) (B' := 0) (by repeat (first | (with_reducible exact FrT.refl _ _ _) | (with_reducible assumption) | (with_reducible refine FrT.drew ?_) | (with_reducible refine FrT.alloc ?_ _) | ((with_reducible refine FrT.setNew ?_ ?_ _); rotate_left; (first | (with_reducible exact Nat.zero_le _) | (with_reducible exact Nat.le_refl _) | omega | (dsimp only; omega) | (simp only [World.size_alloc, World.size_setCell, World.size_drew]; omega))) | ((with_reducible refine FrT.setT ?_ ?_ ?_ _); rotate_left; (first | (with_reducible exact Nat.zero_le _) | (with_reducible exact Nat.le_refl _) | omega | (dsimp only; omega) | (simp only [World.size_alloc, World.size_setCell, World.size_drew]; omega)); apply TyT.intro; (repeat (first | (with_reducible assumption) | (with_reducible apply Ty.set) | (with_reducible apply Ty.alloc) | (with_reducible apply Ty.drew) | (with_reducible exact Ty.new _ _ _ _))); rfl))) rfl rfl
    · repeat (first | (with_reducible exact FrT.refl _ _ _) | (with_reducible assumption) | (with_reducible refine FrT.drew ?_) | (with_reducible refine FrT.alloc ?_ _) | ((with_reducible refine FrT.setNew ?_ ?_ _); rotate_left; (first | (with_reducible exact Nat.zero_le _) | (with_reducible exact Nat.le_refl _) | omega | (dsimp only; omega) | (simp only [World.size_alloc, World.size_setCell, World.size_drew]; omega))) | ((with_reducible refine FrT.setT ?_ ?_ ?_ _); rotate_left; (first | (with_reducible exact Nat.zero_le _) | (with_reducible exact Nat.le_refl _) | omega | (dsimp only; omega) | (simp only [World.size_alloc, World.size_setCell, World.size_drew]; omega)); apply TyT.intro; (repeat (first | (with_reducible assumption) | (with_reducible apply Ty.set) | (with_reducible apply Ty.alloc) | (with_reducible apply Ty.drew) | (with_reducible exact Ty.new _ _ _ _))); rfl))
  · have h0' : (k == 0) = false := by simpa using h0
    have h1' : (k == 1) = false := by simpa using h1
    have h2' : (k == 2) = false := by simpa using h2
    go_enter Try.func15, Try.ntmps15
    go_wp2_with fail
    refine (lapsed_any hB2 hok t).mono ?_
    rintro e w1 ⟨rfl, hb1⟩
    have hf : FrT base TB _ w1 := .of_below hb1
    obtain ⟨sv', hB3⟩ : ∃ sv', Holds w1 base b sv' B := ⟨sv, hB2.step hb1⟩
    have C1 := B1.step hb1
    have hF1 := hF.trans hf
    replace fin := Lib.hid (fin · · ent0 (lapV B t) (momE B t) B (by simp [stV, h0]) (by simp [stN, h0, h1, h2]) (by simp [stE, h0, h1]) (by simp [stB, h0, h1]))
    have c1 := C1.cell
    have f1 := C1.free
    have l1 := C1.lt
    have T1 := C1.ty
    go_wp2_with fail
    refine bodyPost_ret (v := .tuple #[.agg (encV ent0).toArray, .int .i64 (lapV B t), .int .i64 (momE B t)]) (by simp only [results, Try.results15]; go_simp; first | done | rfl) rfl (fin.out _ _ rfl ⟨sv', ?_, ?_⟩)
    · exact (hB3).frT (T := fun t => !TB t) (B' := 0) (by repeat (first | (with_reducible exact FrT.refl _ _ _) | (with_reducible assumption) | (with_reducible refine FrT.drew ?_) | (with_reducible refine FrT.alloc ?_ _) | ((with_reducible refine FrT.setNew ?_ ?_ _); rotate_left; (first | (with_reducible exact Nat.zero_le _) | (with_reducible exact Nat.le_refl _) | omega | (dsimp only; omega) | (simp only [World.size_alloc, World.size_setCell, World.size_drew]; omega))) | ((with_reducible refine FrT.setT ?_ ?_ ?_ _); rotate_left; (first | (with_reducible exact Nat.zero_le _) | (with_reducible exact Nat.le_refl _) | omega | (dsimp only; omega) | (simp only [World.size_alloc, World.size_setCell, World.size_drew]; omega)); apply TyT.intro; (repeat (first | (with_reducible assumption) | (with_reducible apply Ty.set) | (with_reducible apply Ty.alloc) | (with_reducible apply Ty.drew) | (with_reducible exact Ty.new _ _ _ _))); rfl))) rfl rfl
    · repeat (first | (with_reducible exact FrT.refl _ _ _) | (with_reducible assumption) | (with_reducible refine FrT.drew ?_) | (with_reducible refine FrT.alloc ?_ _) | ((with_reducible refine FrT.setNew ?_ ?_ _); rotate_left; (first | (with_reducible exact Nat.zero_le _) | (with_reducible exact Nat.le_refl _) | omega | (dsimp only; omega) | (simp only [World.size_alloc, World.size_setCell, World.size_drew]; omega))) | ((with_reducible refine FrT.setT ?_ ?_ ?_ _); rotate_left; (first | (with_reducible exact Nat.zero_le _) | (with_reducible exact Nat.le_refl _) | omega | (dsimp only; omega) | (simp only [World.size_alloc, World.size_setCell, World.size_drew]; omega)); apply TyT.intro; (repeat (first | (with_reducible assumption) | (with_reducible apply Ty.set) | (with_reducible apply Ty.alloc) | (with_reducible apply Ty.drew) | (with_reducible exact Ty.new _ _ _ _))); rfl))

end Go.Proofs.Ytbpeiljpbcgjaaa
