/- Contracts: equal lists of numbers; few scales and pairs; when a scale needs calibration. -/
import Derived.Test.YtpjdoopcjdbefaaCalA
import Derived.Test.YtpjdoopcjdbefaaCalQ
import Derived.BigQuiet
namespace Go.Proofs.Ytpjdoopcjdbefaa
set_option linter.unusedVariables false
set_option linter.unusedSimpArgs false
open Go.RowKit

theorem below_drewM {w : World} : ∀ n, Below w.heap.size w (w.drewN n) := by
  intro n
  induction n with
  | zero => exact Below.refl _ _
  | succ n ih => exact ih.drew
def IsRel (w : World) (a b : List Nat) (i : Value) (wr : World) : Prop := ∃ k : Nat, k ≤ a.length ∧ i = .int .i64 k ∧ a.take k = b.take k ∧ Below w.heap.size w wr
theorem take_step {a b : List Nat} {k x y : Nat} (h1 : a[k]? = some x) (h2 : b[k]? = some y) (h : a.take k = b.take k) : a.take (k + 1) = b.take (k + 1) ↔ x = y := by
  rw [List.take_add_one, List.take_add_one, h1, h2, h]
  simp
set_option maxHeartbeats 1000000 in
theorem rints_any {w : World} {v v' : Value} {a b : List Nat} (ha : RowIn w v 1 encN a) (hb : RowIn w v' 1 encN b) : Calls Try.prog 15 #[v, v'] w fun e w' => e = .returned (.bool (decide (a = b))) ∧ Below w.heap.size w w' := by
  obtain ⟨oa, ca, rfl, a1, a2, _, ha5⟩ := ha.at_
  obtain ⟨ob, cb, rfl, b1, b2, _, hb5⟩ := hb.at_
  unfold maxLen at a2 b2
  have HA := Lib.hid ha5
  have HB := Lib.hid hb5
  clear ha5 hb5 ha hb
  by_cases hl : a.length = b.length
  case neg =>
    have hl' : ((a.length : Int) != b.length) = true := by simp; omega
    have he : decide (a = b) = false := decide_eq_false fun h => hl (by rw [h])
    rw [he]
    clear hl he
    go_enter Try.func15, Try.ntmps15
    go_wp2_with fail
    go_ret
    exact ⟨rfl, Below.refl _ _⟩
  have HL := Lib.hid hl
  rw [← hl]
  rw [← hl] at b1
  clear hl
  go_enter Try.func15, Try.ntmps15
  go_wp2_with fail
  go_loopw [13] (fun i wr => IsRel w a b i wr) (fun i _ => (a.length - intOf i).toNat)
  case atStart => exact ⟨0, Nat.zero_le _, rfl, rfl, Below.refl _ _⟩
  case round =>
    obtain ⟨k, hk, rfl, hok, hbr⟩ := hrel
    by_cases hlt : k < a.length
    · have hx := getD_of (d := 0) hlt
      have hy := getD_of (l := b) (d := 0) (show k < b.length by have := HL.out; omega)
      obtain ⟨p, o, rfl, hp, hc⟩ := HA.out (by rintro rfl; simp at hlt)
      obtain ⟨p', o', rfl, hp', hc'⟩ := HB.out (by rintro rfl; simp at hy)
      have e0 : World.cell? wr ⟨p, o + k, none⟩ = some (.int .i64 ((a.getD k 0 : Nat) : Int)) := by
        have := hc k _ hx 0 (by omega)
        rw [Nat.mul_one, Nat.add_zero] at this
        exact (hbr.cell (p := ⟨p, o + k, none⟩) hp).trans this
      have e1 : World.cell? wr ⟨p', o' + k, none⟩ = some (.int .i64 ((b.getD k 0 : Nat) : Int)) := by
        have := hc' k _ hy 0 (by omega)
        rw [Nat.mul_one, Nat.add_zero] at this
        exact (hbr.cell (p := ⟨p', o' + k, none⟩) hp').trans this
      have hts := take_step hx hy hok
      clear hx hy hc hc' hok
      generalize a.getD k 0 = x at *
      generalize b.getD k 0 = y at *
      have i0 : (0 : Int) ≤ k := by omega
      have i1 : (k : Int) < a.length := by omega
      by_cases hxy : x = y
      · subst hxy
        have HT := Lib.hid (hts.2 rfl)
        clear hts
        go_wp2_with fail
        go_quiet (fail)
        go_wp2_with fail
        go_roundw
        case rel => exact ⟨k + 1, hlt, by simp, HT.out, hbr.trans ((below_drewM nq).mono hbr.size)⟩
        case measure => simp [intOf]; omega
      · have hne : ((x : Int) != (y : Int)) = true := by simp; omega
        have hf : decide (a = b) = false := decide_eq_false fun h => hxy (hts.1 (by rw [h]))
        have HF := Lib.hid hf
        clear hts hxy hf
        go_wp2_with fail
        go_quiet (fail)
        go_wp2_with fail
        go_ret
        exact ⟨by rw [HF.out]; rfl, hbr.trans ((below_drewM nq).mono hbr.size)⟩
    · obtain rfl : k = a.length := by omega
      have : a = b := by rw [List.take_length, HL.out, List.take_length] at hok; exact hok
      have HF := Lib.hid (decide_eq_true this)
      clear this hok
      go_wp2_with fail
      go_ret
      exact ⟨by rw [HF.out]; rfl, hbr⟩

theorem few_any {w : World} {oa ob : Option Addr} (n m ca cb : Nat) (hn : n ≤ ca) (hc : ca ≤ maxLen) (hm : m ≤ cb) (hd : cb ≤ maxLen) : Calls Try.prog 11 #[.slice oa n ca, .slice ob m cb] w fun e w' => e = .returned (.bool (decide (n ≤ 20 ∧ m ≤ 100))) ∧ w' = w := by
  unfold maxLen at hc hd
  rcases (show (n ≤ 20 ∧ m ≤ 100) ∨ (¬ n ≤ 20) ∨ (n ≤ 20 ∧ ¬ m ≤ 100) by omega) with ⟨h1, h2⟩ | h1 | ⟨h1, h2⟩
  · rw [decide_eq_true ⟨h1, h2⟩]
    have g1 : (n : Int) ≤ 20 := by omega
    have g2 : (m : Int) ≤ 100 := by omega
    go_enter Try.func11, Try.ntmps11
    go_wp2_with fail
    go_ret
    exact ⟨rfl, rfl⟩
  · rw [decide_eq_false (by omega)]
    have g1 : ¬ (n : Int) ≤ 20 := by omega
    go_enter Try.func11, Try.ntmps11
    go_wp2_with fail
    go_ret
    exact ⟨rfl, rfl⟩
  · rw [decide_eq_false (by omega)]
    have g1 : (n : Int) ≤ 20 := by omega
    have g2 : ¬ (m : Int) ≤ 100 := by omega
    go_enter Try.func11, Try.ntmps11
    go_wp2_with fail
    go_ret
    exact ⟨rfl, rfl⟩

def errS (s : Sc) (m t : Int) : Int := errn s.a s.b s.c s.d s.e s.f m t
def erS (s : Sc) (m t : Int) : Int := errv s.a s.b s.c s.d s.e s.f m t
def neeE (s : Sc) (t lim : Int) : Int := if errS s 0 t ≠ 0 then errS s 0 t else if lim < 0 ∨ lim > 1073741824 then 1 else 0
def neeB (s : Sc) (t lim : Int) : Bool := if neeE s t lim = 0 then decide (erS s 0 t > lim) else false
def untE (s : Sc) (lim : Int) : Int := if chkS s ≠ 0 then chkS s else if lim < 0 ∨ lim > 1073741824 then 1 else if s.c > lim then 7 else 0
def untV (s : Sc) (lim : Int) : Int := if untE s lim = 0 then (if s.e = 0 then 3155759999 else if s.f + (lim - s.c) / s.e * 86400 < 3155759999 then s.f + (lim - s.c) / s.e * 86400 else 3155759999) else 0

theorem needs_any (s : Sc) (t lim : Int) (w : World) : Calls Try.prog 24 #[.agg #[.int .i64 (s).a, .int .i64 (s).b, .int .i64 (s).c, .int .i64 (s).d, .int .i64 (s).e, .int .i64 (s).f], .int .i64 t, .int .i64 lim] w fun e w' => e = .returned (.tuple #[.bool (neeB s t lim), .int .i64 (neeE s t lim)]) ∧ Below w.heap.size w w' := by
  have he := fun w => error_any s.a s.b s.c s.d s.e s.f 0 t w
  have hE : neeE s t lim = if errS s 0 t ≠ 0 then errS s 0 t else if lim < 0 ∨ lim > 1073741824 then 1 else 0 := rfl
  have hB : neeB s t lim = if neeE s t lim = 0 then decide (erS s 0 t > lim) else false := rfl
  have hb : Below w.heap.size w (w.alloc (.cells (#[.int .i64 (s).a, .int .i64 (s).b, .int .i64 (s).c, .int .i64 (s).d, .int .i64 (s).e, .int .i64 (s).f]) 32)) := by repeat (first | (with_reducible exact Below.refl _ _) | (with_reducible assumption) | (with_reducible refine Below.drew ?_) | ((with_reducible refine Below.alloc ?_ ?_ _); rotate_left; (first | (with_reducible exact Nat.zero_le _) | (with_reducible exact Nat.le_refl _) | omega | (dsimp only; omega) | (simp only [World.size_alloc, World.size_setCell, World.size_drew]; omega))) | ((with_reducible refine Below.setCell ?_ ?_ _); rotate_left; (first | (with_reducible exact Nat.zero_le _) | (with_reducible exact Nat.le_refl _) | omega | (dsimp only; omega) | (simp only [World.size_alloc, World.size_setCell, World.size_drew]; omega))))
  rw [show errn s.a s.b s.c s.d s.e s.f 0 t = errS s 0 t from rfl, show errv s.a s.b s.c s.d s.e s.f 0 t = erS s 0 t from rfl] at he
  generalize neeE s t lim = NE at *
  generalize neeB s t lim = NB at *
  generalize errS s 0 t = E at *
  generalize erS s 0 t = V at *
  by_cases h0 : E = 0
  case neg =>
    have h0' : (E != 0) = true := by simpa using h0
    rw [if_pos h0] at hE
    rw [hE, if_neg h0] at hB
    rw [hB, hE]
    clear h0 hB hE
    go_enter Try.func24, Try.ntmps24
    go_wp2_with fail
    refine (he _).mono ?_
    rintro e w1 ⟨rfl, hb1⟩
    go_wp2_with fail
    refine bodyPost_ret (v := .tuple #[.bool false, .int .i64 E]) (by simp only [results, Try.results24]; go_simp; first | done | rfl) rfl ⟨rfl, hb.trans (hb1.mono hb.size)⟩
  subst h0
  rw [if_neg (by simp)] at hE
  by_cases g : lim < 0 ∨ lim > 1073741824
  · rw [if_pos g] at hE
    rw [hE, if_neg (by decide)] at hB
    rw [hB, hE]
    clear hB hE
    rcases (show lim < 0 ∨ (¬ lim < 0 ∧ lim > 1073741824) by omega) with d1 | ⟨d1, d2⟩
    all_goals (
      go_enter Try.func24, Try.ntmps24
      go_wp2_with fail
      refine (he _).mono ?_
      rintro e w1 ⟨rfl, hb1⟩
      go_wp2_with fail
      refine bodyPost_ret (v := .tuple #[.bool false, .int .i64 1]) (by simp only [results, Try.results24]; go_simp; first | done | rfl) rfl ⟨rfl, hb.trans (hb1.mono hb.size)⟩)
  · have d1 : ¬ lim < 0 := by omega
    have d2 : ¬ lim > 1073741824 := by omega
    rw [if_neg g] at hE
    rw [hE, if_pos rfl] at hB
    rw [hE]
    clear hE g
    by_cases h1 : V > lim
    · rw [decide_eq_true h1] at hB
      rw [hB]
      clear hB
      go_enter Try.func24, Try.ntmps24
      go_wp2_with fail
      refine (he _).mono ?_
      rintro e w1 ⟨rfl, hb1⟩
      go_wp2_with fail
      refine bodyPost_ret (v := .tuple #[.bool true, .int .i64 0]) (by simp only [results, Try.results24]; go_simp; first | done | rfl) rfl ⟨rfl, hb.trans (hb1.mono hb.size)⟩
    · rw [decide_eq_false h1] at hB
      rw [hB]
      clear hB
      go_enter Try.func24, Try.ntmps24
      go_wp2_with fail
      refine (he _).mono ?_
      rintro e w1 ⟨rfl, hb1⟩
      go_wp2_with fail
      refine bodyPost_ret (v := .tuple #[.bool false, .int .i64 0]) (by simp only [results, Try.results24]; go_simp; first | done | rfl) rfl ⟨rfl, hb.trans (hb1.mono hb.size)⟩

theorem rneeds_any (s : Sc) (t lim : Int) (w : World) : Calls Try.prog 25 #[.agg #[.int .i64 (s).a, .int .i64 (s).b, .int .i64 (s).c, .int .i64 (s).d, .int .i64 (s).e, .int .i64 (s).f], .int .i64 t, .int .i64 lim] w fun e w' => e = .returned (.tuple #[.bool (neeB s t lim), .int .i64 (neeE s t lim)]) ∧ Below w.heap.size w w' := by
  have he := fun w => rerror_any s.a s.b s.c s.d s.e s.f 0 t w
  have hE : neeE s t lim = if errS s 0 t ≠ 0 then errS s 0 t else if lim < 0 ∨ lim > 1073741824 then 1 else 0 := rfl
  have hB : neeB s t lim = if neeE s t lim = 0 then decide (erS s 0 t > lim) else false := rfl
  have hb : Below w.heap.size w (w.alloc (.cells (#[.int .i64 (s).a, .int .i64 (s).b, .int .i64 (s).c, .int .i64 (s).d, .int .i64 (s).e, .int .i64 (s).f]) 32)) := by repeat (first | (with_reducible exact Below.refl _ _) | (with_reducible assumption) | (with_reducible refine Below.drew ?_) | ((with_reducible refine Below.alloc ?_ ?_ _); rotate_left; (first | (with_reducible exact Nat.zero_le _) | (with_reducible exact Nat.le_refl _) | omega | (dsimp only; omega) | (simp only [World.size_alloc, World.size_setCell, World.size_drew]; omega))) | ((with_reducible refine Below.setCell ?_ ?_ _); rotate_left; (first | (with_reducible exact Nat.zero_le _) | (with_reducible exact Nat.le_refl _) | omega | (dsimp only; omega) | (simp only [World.size_alloc, World.size_setCell, World.size_drew]; omega))))
  rw [show errn s.a s.b s.c s.d s.e s.f 0 t = errS s 0 t from rfl, show errv s.a s.b s.c s.d s.e s.f 0 t = erS s 0 t from rfl] at he
  generalize neeE s t lim = NE at *
  generalize neeB s t lim = NB at *
  generalize errS s 0 t = E at *
  generalize erS s 0 t = V at *
  by_cases h0 : E = 0
  case neg =>
    have h0' : (E != 0) = true := by simpa using h0
    rw [if_pos h0] at hE
    rw [hE, if_neg h0] at hB
    rw [hB, hE]
    clear h0 hB hE
    go_enter Try.func25, Try.ntmps25
    go_wp2_with fail
    refine (he _).mono ?_
    rintro e w1 ⟨rfl, hb1⟩
    go_wp2_with fail
    refine bodyPost_ret (v := .tuple #[.bool false, .int .i64 E]) (by simp only [results, Try.results25]; go_simp; first | done | rfl) rfl ⟨rfl, hb.trans (hb1.mono hb.size)⟩
  subst h0
  rw [if_neg (by simp)] at hE
  by_cases g : lim < 0 ∨ lim > 1073741824
  · rw [if_pos g] at hE
    rw [hE, if_neg (by decide)] at hB
    rw [hB, hE]
    clear hB hE
    rcases (show lim < 0 ∨ (¬ lim < 0 ∧ lim > 1073741824) by omega) with d1 | ⟨d1, d2⟩
    all_goals (
      go_enter Try.func25, Try.ntmps25
      go_wp2_with fail
      refine (he _).mono ?_
      rintro e w1 ⟨rfl, hb1⟩
      go_wp2_with fail
      refine bodyPost_ret (v := .tuple #[.bool false, .int .i64 1]) (by simp only [results, Try.results25]; go_simp; first | done | rfl) rfl ⟨rfl, hb.trans (hb1.mono hb.size)⟩)
  · have d1 : ¬ lim < 0 := by omega
    have d2 : ¬ lim > 1073741824 := by omega
    rw [if_neg g] at hE
    rw [hE, if_pos rfl] at hB
    rw [hE]
    clear hE g
    by_cases h1 : V > lim
    · rw [decide_eq_true h1] at hB
      rw [hB]
      clear hB
      go_enter Try.func25, Try.ntmps25
      go_wp2_with fail
      refine (he _).mono ?_
      rintro e w1 ⟨rfl, hb1⟩
      go_wp2_with fail
      refine bodyPost_ret (v := .tuple #[.bool true, .int .i64 0]) (by simp only [results, Try.results25]; go_simp; first | done | rfl) rfl ⟨rfl, hb.trans (hb1.mono hb.size)⟩
    · rw [decide_eq_false h1] at hB
      rw [hB]
      clear hB
      go_enter Try.func25, Try.ntmps25
      go_wp2_with fail
      refine (he _).mono ?_
      rintro e w1 ⟨rfl, hb1⟩
      go_wp2_with fail
      refine bodyPost_ret (v := .tuple #[.bool false, .int .i64 0]) (by simp only [results, Try.results25]; go_simp; first | done | rfl) rfl ⟨rfl, hb.trans (hb1.mono hb.size)⟩

end Go.Proofs.Ytpjdoopcjdbefaa
