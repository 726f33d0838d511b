/- Contracts: the reference's search by halving, in both directions. -/
import Derived.Test.YtapfihlfnaebhaaScaleG
namespace Go.Proofs.Ytapfihlfnaebhaa
set_option linter.unusedVariables false
set_option linter.unusedSimpArgs false
open Go.RowKit

def ReachRel (D : Int) (w : World) (l b : Value) (w' : World) : Prop :=
  ∃ (x k : Int), l = .int .i64 x ∧ b = .int .i64 k ∧ -1 ≤ k ∧ k ≤ 31 ∧ 0 ≤ x ∧ x ≤ D ∧ D < x + 2 ^ (k + 1).toNat ∧ Below w.heap.size w w'

theorem two_pow_le {k : Nat} (h : k ≤ 31) : (2 : Int) ^ k ≤ 2147483648 ∧ 0 < (2 : Int) ^ k := by
  constructor
  · have := Nat.pow_le_pow_right (n := 2) (by omega) h
    have e : ((2 ^ k : Nat) : Int) = (2 : Int) ^ k := by simp
    rw [← e]
    omega
  · exact Int.pow_pos (by omega)
theorem two_pow_succ (k : Nat) : (2 : Int) ^ (k + 1) = 2 * 2 ^ k := by rw [Int.pow_succ]; omega


set_option maxHeartbeats 1000000 in
theorem reach_up (sa sb sc sd se sf n t most D : Int) (w : World) (hm0 : 0 ≤ most) (hm1 : most ≤ 1073741824) (hn : 0 ≤ n) (hn' : n ≤ 1073741824) (hcap : n + most ≤ 1073741824) (hD0 : 0 ≤ D) (hD : D ≤ most)
    (hp : ∀ d, 0 ≤ d → d ≤ most → cld sa sb sc sd se sf (n + 1 * d) n t = decide (d ≤ D)) :
    Calls Try.prog 74 #[.agg #[.int .i64 sa, .int .i64 sb, .int .i64 sc, .int .i64 sd, .int .i64 se, .int .i64 sf], .int .i64 n, .int .i64 t, .int .i64 (1), .int .i64 most] w fun e w' => e = .returned (.int .i64 D) ∧ Below w.heap.size w w' := by
  have HP := Lib.hid hp
  clear hp
  go_enter Try.func74, Try.ntmps74
  go_wp2_with fail
  go_loopw [11, 12] (fun l b wr => ReachRel D (w.alloc (.cells #[.int .i64 sa, .int .i64 sb, .int .i64 sc, .int .i64 sd, .int .i64 se, .int .i64 sf] 23)) l b wr) (fun _ b _ => (intOf b + 1).toNat)
  case atStart => exact ⟨0, 31, rfl, rfl, by omega, Int.le_refl _, Int.le_refl _, hD0, by have : ((31 : Int) + 1).toNat = 32 := rfl; rw [this]; omega, Below.refl _ _⟩
  case round =>
    obtain ⟨x, k, rfl, rfl, hk0, hk, hx0, hxD, hDx, hb⟩ := hrel
    have HDX := Lib.hid hDx
    clear hDx
    obtain ⟨hc1, hz1⟩ := bcell hb
    have hs1 : w.heap.size < wr.heap.size := by have := hb.size; simp at this; omega
    by_cases hk1 : 0 ≤ k
    · obtain ⟨j, rfl⟩ : ∃ j : Nat, k = j := ⟨k.toNat, by omega⟩
      obtain ⟨p1, p0⟩ := two_pow_le (k := j) (by omega)
      have p2 : D < x + 2 * 2 ^ j := by
        have h := HDX.out
        have e : ((j : Int) + 1).toNat = j + 1 := by omega
        rw [e, two_pow_succ] at h
        exact h
      clear HDX
      by_cases hd : x + 2 ^ j ≤ most
      · have hcl := HP.out (x + 2 ^ j) (by omega) hd
        by_cases hD' : x + 2 ^ j ≤ D
        · have hcl' : cld sa sb sc sd se sf (n + (x + 2 ^ j)) n t = true := by rw [← hcl.trans (decide_eq_true hD')]; congr 1; omega
          clear hcl
          go_wp2_with (go_at_call 8; refine (rcould_any _ _ _ _ _ _ _ _ _ _).mono ?_; rintro e w2 ⟨rfl, hb2⟩)
          go_roundw
          case rel => exact ⟨x + 2 ^ j, (j : Int) - 1, rfl, rfl, by omega, by omega, by omega, hD', by have e : ((j : Int) - 1 + 1).toNat = j := (by omega); rw [e]; omega, hb.trans (hb2.mono hb.size)⟩
          case measure => simp [intOf] <;> omega
        · have hcl' : cld sa sb sc sd se sf (n + (x + 2 ^ j)) n t = false := by rw [← hcl.trans (decide_eq_false hD')]; congr 1; omega
          clear hcl
          go_wp2_with (go_at_call 8; refine (rcould_any _ _ _ _ _ _ _ _ _ _).mono ?_; rintro e w2 ⟨rfl, hb2⟩)
          go_roundw
          case rel => exact ⟨x, (j : Int) - 1, rfl, rfl, by omega, by omega, by omega, hxD, by have e : ((j : Int) - 1 + 1).toNat = j := (by omega); rw [e]; omega, hb.trans (hb2.mono hb.size)⟩
          case measure => simp [intOf] <;> omega
      · go_wp2_with fail
        go_roundw
        case rel => exact ⟨x, (j : Int) - 1, rfl, rfl, by omega, by omega, by omega, hxD, by have e : ((j : Int) - 1 + 1).toNat = j := (by omega); rw [e]; omega, hb⟩
        case measure => simp [intOf] <;> omega
    · go_wp2_with fail
      go_ret
      have he : k = -1 := by omega
      subst he
      have h := HDX.out
      have e : ((-1 : Int) + 1).toNat = 0 := rfl
      rw [e] at h
      have : x = D := by omega
      subst this
      exact ⟨by simp, ((Below.refl _ _).alloc (Nat.le_refl _) _).trans (hb.mono (by simp))⟩
set_option maxHeartbeats 1000000 in
theorem reach_down (sa sb sc sd se sf n t most D : Int) (w : World) (hm0 : 0 ≤ most) (hm1 : most ≤ 1073741824) (hn : 0 ≤ n) (hn' : n ≤ 1073741824) (hcap : most ≤ n) (hD0 : 0 ≤ D) (hD : D ≤ most)
    (hp : ∀ d, 0 ≤ d → d ≤ most → cld sa sb sc sd se sf (n + -1 * d) n t = decide (d ≤ D)) :
    Calls Try.prog 74 #[.agg #[.int .i64 sa, .int .i64 sb, .int .i64 sc, .int .i64 sd, .int .i64 se, .int .i64 sf], .int .i64 n, .int .i64 t, .int .i64 (-1), .int .i64 most] w fun e w' => e = .returned (.int .i64 D) ∧ Below w.heap.size w w' := by
  have HP := Lib.hid hp
  clear hp
  go_enter Try.func74, Try.ntmps74
  go_wp2_with fail
  go_loopw [11, 12] (fun l b wr => ReachRel D (w.alloc (.cells #[.int .i64 sa, .int .i64 sb, .int .i64 sc, .int .i64 sd, .int .i64 se, .int .i64 sf] 23)) l b wr) (fun _ b _ => (intOf b + 1).toNat)
  case atStart => exact ⟨0, 31, rfl, rfl, by omega, Int.le_refl _, Int.le_refl _, hD0, by have : ((31 : Int) + 1).toNat = 32 := rfl; rw [this]; omega, Below.refl _ _⟩
  case round =>
    obtain ⟨x, k, rfl, rfl, hk0, hk, hx0, hxD, hDx, hb⟩ := hrel
    have HDX := Lib.hid hDx
    clear hDx
    obtain ⟨hc1, hz1⟩ := bcell hb
    have hs1 : w.heap.size < wr.heap.size := by have := hb.size; simp at this; omega
    by_cases hk1 : 0 ≤ k
    · obtain ⟨j, rfl⟩ : ∃ j : Nat, k = j := ⟨k.toNat, by omega⟩
      obtain ⟨p1, p0⟩ := two_pow_le (k := j) (by omega)
      have p2 : D < x + 2 * 2 ^ j := by
        have h := HDX.out
        have e : ((j : Int) + 1).toNat = j + 1 := by omega
        rw [e, two_pow_succ] at h
        exact h
      clear HDX
      by_cases hd : x + 2 ^ j ≤ most
      · have hcl := HP.out (x + 2 ^ j) (by omega) hd
        by_cases hD' : x + 2 ^ j ≤ D
        · have hcl' : cld sa sb sc sd se sf (n + -(x + 2 ^ j)) n t = true := by rw [← hcl.trans (decide_eq_true hD')]; congr 1; omega
          clear hcl
          go_wp2_with (go_at_call 8; refine (rcould_any _ _ _ _ _ _ _ _ _ _).mono ?_; rintro e w2 ⟨rfl, hb2⟩)
          go_roundw
          case rel => exact ⟨x + 2 ^ j, (j : Int) - 1, rfl, rfl, by omega, by omega, by omega, hD', by have e : ((j : Int) - 1 + 1).toNat = j := (by omega); rw [e]; omega, hb.trans (hb2.mono hb.size)⟩
          case measure => simp [intOf] <;> omega
        · have hcl' : cld sa sb sc sd se sf (n + -(x + 2 ^ j)) n t = false := by rw [← hcl.trans (decide_eq_false hD')]; congr 1; omega
          clear hcl
          go_wp2_with (go_at_call 8; refine (rcould_any _ _ _ _ _ _ _ _ _ _).mono ?_; rintro e w2 ⟨rfl, hb2⟩)
          go_roundw
          case rel => exact ⟨x, (j : Int) - 1, rfl, rfl, by omega, by omega, by omega, hxD, by have e : ((j : Int) - 1 + 1).toNat = j := (by omega); rw [e]; omega, hb.trans (hb2.mono hb.size)⟩
          case measure => simp [intOf] <;> omega
      · go_wp2_with fail
        go_roundw
        case rel => exact ⟨x, (j : Int) - 1, rfl, rfl, by omega, by omega, by omega, hxD, by have e : ((j : Int) - 1 + 1).toNat = j := (by omega); rw [e]; omega, hb⟩
        case measure => simp [intOf] <;> omega
    · go_wp2_with fail
      go_ret
      have he : k = -1 := by omega
      subst he
      have h := HDX.out
      have e : ((-1 : Int) + 1).toNat = 0 := rfl
      rw [e] at h
      have : x = D := by omega
      subst this
      exact ⟨by simp, ((Below.refl _ _).alloc (Nat.le_refl _) _).trans (hb.mono (by simp))⟩

end Go.Proofs.Ytapfihlfnaebhaa
