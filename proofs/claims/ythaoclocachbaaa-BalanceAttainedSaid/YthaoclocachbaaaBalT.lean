/- Contract of the reference: Feasible. -/
import Derived.Test.YthaoclocachbaaaBalS
namespace Go.Proofs.Ythaoclocachbaaa
set_option linter.unusedVariables false
set_option linter.unusedSimpArgs false
open Go.RowKit

theorem feas_stop {L : List Ed} {k m : Nat} (h : k < m) (hr : roomOf (inB k) L < 0) : feasTo L m = false := by
  rw [Bool.eq_false_iff]
  intro hf
  have := feasTo_iff.1 hf k h
  omega
theorem pow_wrap {n : Nat} (h : n ≤ 8) : wrap64 ((2 : Int) ^ (n + 1)) = ((2 ^ (n + 1) : Nat) : Int) := by
  have : ∀ m : Fin 9, wrap64 ((2 : Int) ^ (m.val + 1)) = ((2 ^ (m.val + 1) : Nat) : Int) := by decide +kernel
  exact this ⟨n, by omega⟩
def FeRel (w1 : World) (L : List Ed) (m : Nat) (i : Value) (wr : World) : Prop := ∃ k : Nat, k ≤ m ∧ i = .int .i64 k ∧ feasTo L k = true ∧ wr = w1
set_option maxRecDepth 100000 in
set_option maxHeartbeats 8000000 in
theorem rfeasible_any {w : World} {vo vl vc : Value} {n : Nat} {o : List Sp} {l : List Tr} {c : List Sp} (ho : RowIn w vo 2 encP o) (hl : RowIn w vl 4 encR l) (hc : RowIn w vc 2 encP c) (hB : BOk n o l) (hcl : c.length = n) (hcv : allV c = true) :
    Calls Try.prog 13 #[.int .i64 (n : Int), vo, vl, vc] w fun e w' => e = .returned (.bool (feasB n o l c)) ∧ Below w.heap.size w w' := by
  have har := arcs_ok hB hcl hcv
  have hal := arcs_len (c := c) hB
  have hn8 := hB.n8
  have hn1 := hB.n1
  have hn8' : n ≤ 8 := by omega
  have HAR := Lib.hid har
  clear har
  have hpw : 2 ^ (n + 1) ≤ 512 := Nat.le_trans (Nat.pow_le_pow_right (by omega) (by omega : n + 1 ≤ 9)) (by decide)
  have hra := rarcs_any ho hl hc hB hcl
  have hfe : feasB n o l c = feasTo (arcsL n o l c) (2 ^ (n + 1)) := rfl
  rw [hfe]
  generalize arcsL n o l c = L at *
  clear ho hl hc hB hcl hcv hfe
  have hwr := pow_wrap hn8'
  generalize 2 ^ (n + 1) = M at *
  go_enter Try.func13, Try.ntmps13
  go_wp2_with fail
  refine hra.mono ?_
  rintro e w1 ⟨v, rfl, hr, hb1⟩
  go_wp2_with fail
  have hb1z := hb1.size
  go_loopw [10] (fun i wr => FeRel w1 L M i wr) (fun i _ => (M - intOf i).toNat)
  case atStart => exact ⟨0, Nat.zero_le _, rfl, rfl, rfl⟩
  case round =>
    obtain ⟨k, hk, rfl, hok, hw⟩ := hrel
    replace hw := hw.symm
    subst hw
    have hk0 : (0 : Int) ≤ k := by omega
    by_cases hlt : k < M
    · have hkl : (k : Int) < M := by omega
      have hrm := rroom_any hr hn8' HAR.out hal k (by omega)
      have hst : feasTo L (k + 1) = (feasTo L k && decide (0 ≤ roomOf (inB k) L)) := rfl
      have hno := feas_stop (L := L) hlt
      rw [hok, Bool.true_and] at hst
      generalize roomOf (inB k) L = R at *
      by_cases hR : R < 0
      · have HF := Lib.hid (hno hR)
        clear hok hst hno
        go_wp2_with fail
        refine hrm.mono ?_
        rintro e w' ⟨rfl, rfl⟩
        go_wp2_with fail
        go_ret
        exact ⟨by rw [HF.out]; rfl, hb1⟩
      · rw [decide_eq_true (by omega)] at hst
        have HS := Lib.hid hst
        clear hok hst hno
        go_wp2_with fail
        refine hrm.mono ?_
        rintro e w' ⟨rfl, rfl⟩
        go_wp2_with fail
        go_roundw
        case rel => exact ⟨k + 1, hlt, by simp, HS.out, rfl⟩
        case measure => simp [intOf]; omega
    · obtain rfl : M = k := by omega
      have HF := Lib.hid hok
      clear hok
      go_wp2_with fail
      go_ret
      exact ⟨by rw [HF.out]; rfl, hb1⟩

end Go.Proofs.Ythaoclocachbaaa
