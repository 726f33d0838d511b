/- Contract: equal lists of ints. -/
import Derived.Test.YtpafcdigcpbbeaaLotN
import Derived.BigQuiet
namespace Go.Proofs.Ytpafcdigcpbbeaa
set_option linter.unusedVariables false
set_option linter.unusedSimpArgs false
open Go.RowKit

def encI1 (x : Int) : List Value := [.int .i64 x]
theorem encI1_len (x : Int) : (encI1 x).length = 1 := rfl
theorem below_drewM {w : World} : ∀ n, Below w.heap.size w (w.drewN n) := by
  intro n
  induction n with
  | zero => exact Below.refl _ _
  | succ n ih => exact ih.drew
def IsRel (w : World) (a b : List Int) (i : Value) (wr : World) : Prop := ∃ k : Nat, k ≤ a.length ∧ i = .int .i64 k ∧ a.take k = b.take k ∧ Below w.heap.size w wr
theorem take_step {a b : List Int} {k : Nat} {x y : Int} (h1 : a[k]? = some x) (h2 : b[k]? = some y) (h : a.take k = b.take k) : a.take (k + 1) = b.take (k + 1) ↔ x = y := by
  rw [List.take_add_one, List.take_add_one, h1, h2, h]
  simp
set_option maxHeartbeats 1000000 in
theorem rints_any {w : World} {v v' : Value} {a b : List Int} (ha : RowIn w v 1 encI1 a) (hb : RowIn w v' 1 encI1 b) : Calls Try.prog 23 #[v, v'] w fun e w' => e = .returned (.bool (decide (a = b))) ∧ Below w.heap.size w w' := by
  obtain ⟨oa, ca, rfl, a1, a2, _, ha5⟩ := ha.at_
  obtain ⟨ob, cb, rfl, b1, b2, _, hb5⟩ := hb.at_
  unfold maxLen at a2 b2
  have HA := Lib.hid ha5
  have HB := Lib.hid hb5
  clear ha5 hb5 ha hb
  by_cases hl : a.length = b.length
  case neg =>
    have hl' : ((a.length : Int) != b.length) = true := by simp; omega
    have he : decide (a = b) = false := decide_eq_false fun h => hl (by rw [h])
    rw [he]
    clear hl he
    go_enter Try.func23, Try.ntmps23
    go_wp2_with fail
    go_ret
    exact ⟨rfl, Below.refl _ _⟩
  have HL := Lib.hid hl
  rw [← hl]
  rw [← hl] at b1
  clear hl
  go_enter Try.func23, Try.ntmps23
  go_wp2_with fail
  go_loopw [13] (fun i wr => IsRel w a b i wr) (fun i _ => (a.length - intOf i).toNat)
  case atStart => exact ⟨0, Nat.zero_le _, rfl, rfl, Below.refl _ _⟩
  case round =>
    obtain ⟨k, hk, rfl, hok, hbr⟩ := hrel
    by_cases hlt : k < a.length
    · have hx := getD_of (d := 0) hlt
      have hy := getD_of (l := b) (d := 0) (show k < b.length by have := HL.out; omega)
      obtain ⟨p, o, rfl, hp, hc⟩ := HA.out (by rintro rfl; simp at hlt)
      obtain ⟨p', o', rfl, hp', hc'⟩ := HB.out (by rintro rfl; simp at hy)
      have e0 : World.cell? wr ⟨p, o + k, none⟩ = some (.int .i64 (a.getD k 0)) := by
        have := hc k _ hx 0 (by omega)
        rw [Nat.mul_one, Nat.add_zero] at this
        exact (hbr.cell (p := ⟨p, o + k, none⟩) hp).trans this
      have e1 : World.cell? wr ⟨p', o' + k, none⟩ = some (.int .i64 (b.getD k 0)) := by
        have := hc' k _ hy 0 (by omega)
        rw [Nat.mul_one, Nat.add_zero] at this
        exact (hbr.cell (p := ⟨p', o' + k, none⟩) hp').trans this
      have hts := take_step hx hy hok
      clear hx hy hc hc' hok
      generalize a.getD k 0 = x at *
      generalize b.getD k 0 = y at *
      have i0 : (0 : Int) ≤ k := by omega
      have i1 : (k : Int) < a.length := by omega
      by_cases hxy : x = y
      · subst hxy
        have HT := Lib.hid (hts.2 rfl)
        clear hts
        go_wp2_with fail
        go_quiet (fail)
        go_wp2_with fail
        go_roundw
        case rel => exact ⟨k + 1, hlt, by simp, HT.out, hbr.trans ((below_drewM nq).mono hbr.size)⟩
        case measure => simp [intOf]; omega
      · have hne : (x != y) = true := by simpa using hxy
        have hf : decide (a = b) = false := decide_eq_false fun h => hxy (hts.1 (by rw [h]))
        have HF := Lib.hid hf
        clear hts hxy hf
        go_wp2_with fail
        go_quiet (fail)
        go_wp2_with fail
        go_ret
        exact ⟨by rw [HF.out]; rfl, hbr.trans ((below_drewM nq).mono hbr.size)⟩
    · obtain rfl : k = a.length := by omega
      have : a = b := by rw [List.take_length, HL.out, List.take_length] at hok; exact hok
      have HF := Lib.hid (decide_eq_true this)
      clear this hok
      go_wp2_with fail
      go_ret
      exact ⟨by rw [HF.out]; rfl, hbr⟩


end Go.Proofs.Ytpafcdigcpbbeaa
