/- Contracts of the reference: sets of nodes, their room. -/
import Derived.Test.YthaoclocachbaaaBalJ
import Derived.Lib.RabinKarpLaws
namespace Go.Proofs.Ythaoclocachbaaa
set_option linter.unusedVariables false
set_option linter.unusedSimpArgs false
open Go.RowKit

def encA (e : Ed) : List Value := [.int .i64 (e.u : Nat), .int .i64 (e.v : Nat), .int .i64 e.lo, .int .i64 e.hi]
theorem encA_len (e : Ed) : (encA e).length = 4 := rfl
theorem oneA (m : List Ed) : ∀ u ∈ rowOf encA m, u.oneCell' = true := by
  intro u hu
  simp only [rowOf, List.mem_flatMap] at hu
  obtain ⟨e, _, he⟩ := hu
  simp [encA] at he
  rcases he with rfl | rfl | rfl | rfl <;> rfl

theorem inB_bit (s x : Nat) : inB s x = decide (s / 2 ^ x % 2 = 1) := by
  unfold inB
  rw [Nat.testBit, Nat.shiftRight_eq_div_pow]
  simp [Nat.and_comm, Nat.and_one_is_mod, bne]
  cases h : decide (s / 2 ^ x % 2 = 1) <;> simp at h ⊢ <;> omega

set_option maxHeartbeats 4000000 in
theorem rin_any (s x : Nat) (hx : x < 64) (hs : s < 1048576) (w : World) : Calls Try.prog 34 #[.int .i64 (s : Nat), .int .i64 (x : Nat)] w fun e w' => e = .returned (.bool (inB s x)) ∧ w' = w := by
  have hx0 : (0 : Int) ≤ x := by omega
  have hx1 : (x : Int) < 64 := by omega
  have hs0 : (0 : Int) ≤ s := by omega
  have hs1 : (s : Int) < 1048576 := by omega
  go_enter Try.func34, Try.ntmps34
  go_wp2_with fail
  go_ret
  refine ⟨?_, rfl⟩
  have e1 : (s : Int) / 2 ^ x = ((s / 2 ^ x : Nat) : Int) := by simp [Int.natCast_ediv]
  have e2 : s / 2 ^ x < 9223372036854775808 := Nat.lt_of_le_of_lt (Nat.div_le_self _ _) (by omega)
  have e3 : (bits BinOp.and IntKind.i64 ((s : Int) / 2 ^ x) 1 == 1) = inB s x := by
    rw [e1, and_one _ e2, inB_bit]
    by_cases h : s / 2 ^ x % 2 = 1
    · rw [h]; rfl
    · rw [decide_eq_false h]
      have : ((s / 2 ^ x % 2 : Nat) : Int) ≠ 1 := by omega
      simpa using this
  rw [← e3]
  rfl

/-- Bounds of one arc. -/
structure ArcB (n : Nat) (e : Ed) : Prop where
  u : e.u ≤ n
  v : e.v ≤ n
  lo : -70368744177664 ≤ e.lo
  lo2 : e.lo ≤ 70368744177664
  hi : -70368744177664 ≤ e.hi
  hi2 : e.hi ≤ 70368744177664
theorem roomOf_snoc (T : Nat → Bool) (l : List Ed) (e : Ed) : roomOf T (l ++ [e]) = roomOf T l + ((if T e.u = false ∧ T e.v = true then e.hi else 0) - (if T e.u = true ∧ T e.v = false then e.lo else 0)) := by
  rw [roomOf_append]; simp only [roomOf]; omega
theorem roomOf_bd {n : Nat} (T : Nat → Bool) : ∀ {l : List Ed}, (∀ e ∈ l, ArcB n e) → -(70368744177664 * l.length) ≤ roomOf T l ∧ roomOf T l ≤ 70368744177664 * l.length
  | [], _ => by simp [roomOf]
  | e :: l, h => by
    have ih := roomOf_bd T (l := l) fun x hx => h x (by simp [hx])
    obtain ⟨_, _, h1, h2, h3, h4⟩ := h e (by simp)
    simp only [roomOf, List.length_cons]
    cases T e.u <;> cases T e.v <;> simp <;> omega

def RoomRel (w : World) (s : Nat) (L : List Ed) (acc i : Value) (wr : World) : Prop := ∃ k : Nat, k ≤ L.length ∧ i = .int .i64 k ∧ acc = .int .i64 (roomOf (inB s) (L.take k)) ∧ wr = w
set_option maxRecDepth 100000 in
set_option maxHeartbeats 8000000 in
theorem rroom_any {w : World} {v : Value} {n : Nat} {L : List Ed} (hl : RowIn w v 4 encA L) (hn : n ≤ 8) (hL : ∀ e ∈ L, ArcB n e) (hlen : L.length ≤ 96) (s : Nat) (hs : s < 1048576) : Calls Try.prog 28 #[v, .int .i64 (s : Nat)] w fun e w' => e = .returned (.int .i64 (roomOf (inB s) L)) ∧ w' = w := by
  obtain ⟨la, cb, rfl, _, _, _, hl5⟩ := hl.at_
  have HL := Lib.hid hl5
  have HB := Lib.hid hL
  clear hl5 hL
  go_enter Try.func28, Try.ntmps28
  go_wp2_with fail
  go_loopw [5, 6] (fun acc i wr => RoomRel w s L acc i wr) (fun _ i _ => (L.length - intOf i).toNat)
  case atStart => exact ⟨0, Nat.zero_le _, rfl, rfl, rfl⟩
  case round =>
    obtain ⟨k, hk, rfl, rfl, hw⟩ := hrel
    replace hw := hw.symm
    subst hw
    by_cases hlt : k < L.length
    · obtain ⟨x, hx⟩ : ∃ x, L[k]? = some x := ⟨_, List.getElem?_eq_getElem hlt⟩
      obtain ⟨ob, oo, hoo, hoz, hoc⟩ := HL.out (by rintro rfl; simp at hlt)
      subst hoo
      have hkl : (k : Int) < L.length := by omega
      have hk0 : (0 : Int) ≤ k := by omega
      have hst := roomOf_snoc (inB s) (L.take k) x
      rw [← take_snoc hx] at hst
      have hbd := roomOf_bd (n := n) (inB s) (l := L.take k) fun e he => HB.out e (List.mem_of_mem_take he)
      obtain ⟨b1, b2, b3, b4, b5, b6⟩ := HB.out x (List.mem_of_getElem? hx)
      have hlk : ((L.take k).length : Int) ≤ 96 := by simp; omega
      obtain ⟨hbd1, hbd2⟩ := hbd
      obtain ⟨u, v, lo, hi⟩ := x
      dsimp only at b1 b2 b3 b4 b5 b6 hst
      have e0 : World.cell? w ⟨ob, oo + k * 4, none⟩ = some (.int .i64 (u : Nat)) := hoc k _ hx 0 (by omega)
      have e1 : World.cell? w ⟨ob, oo + k * 4 + 1, none⟩ = some (.int .i64 (v : Nat)) := hoc k _ hx 1 (by omega)
      have e2 : World.cell? w ⟨ob, oo + k * 4 + 2, none⟩ = some (.int .i64 lo) := hoc k _ hx 2 (by omega)
      have e3 : World.cell? w ⟨ob, oo + k * 4 + 3, none⟩ = some (.int .i64 hi) := hoc k _ hx 3 (by omega)
      generalize roomOf (inB s) (L.take k) = R at *
      clear hoc hx
      have HST := Lib.hid hst
      clear hst
      cases hu : inB s u with
      | false =>
        cases hv : inB s v with
        | false =>
          have HU := Lib.hid hu
          have HV := Lib.hid hv
          have q1 := fun w => rin_any s u (by omega) hs w
          have q2 := fun w => rin_any s v (by omega) hs w
          rw [hu] at q1
          rw [hv] at q2
          clear hu hv
          go_wp2_with fail
          refine (q1 _).mono ?_
          rintro e w' ⟨rfl, rfl⟩
          go_wp2_with fail
          refine (q2 _).mono ?_
          rintro e w' ⟨rfl, rfl⟩
          go_wp2_with fail
          refine (q1 _).mono ?_
          rintro e w' ⟨rfl, rfl⟩
          skip
          go_wp2_with fail
          go_roundw
          case rel => exact ⟨k + 1, hlt, by simp, by rw [HST.out]; simp [HU.out, HV.out], rfl⟩
          case measure => simp [intOf]; omega
        | true =>
          have HU := Lib.hid hu
          have HV := Lib.hid hv
          have q1 := fun w => rin_any s u (by omega) hs w
          have q2 := fun w => rin_any s v (by omega) hs w
          rw [hu] at q1
          rw [hv] at q2
          clear hu hv
          go_wp2_with fail
          refine (q1 _).mono ?_
          rintro e w' ⟨rfl, rfl⟩
          go_wp2_with fail
          refine (q2 _).mono ?_
          rintro e w' ⟨rfl, rfl⟩
          go_wp2_with fail
          refine (q1 _).mono ?_
          rintro e w' ⟨rfl, rfl⟩
          skip
          go_wp2_with fail
          go_roundw
          case rel => exact ⟨k + 1, hlt, by simp, by rw [HST.out]; simp [HU.out, HV.out], rfl⟩
          case measure => simp [intOf]; omega
      | true =>
        cases hv : inB s v with
        | false =>
          have HU := Lib.hid hu
          have HV := Lib.hid hv
          have q1 := fun w => rin_any s u (by omega) hs w
          have q2 := fun w => rin_any s v (by omega) hs w
          rw [hu] at q1
          rw [hv] at q2
          clear hu hv
          go_wp2_with fail
          refine (q1 _).mono ?_
          rintro e w' ⟨rfl, rfl⟩
          go_wp2_with fail
          refine (q1 _).mono ?_
          rintro e w' ⟨rfl, rfl⟩
          go_wp2_with fail
          refine (q2 _).mono ?_
          rintro e w' ⟨rfl, rfl⟩
          skip
          go_wp2_with fail
          go_roundw
          case rel => exact ⟨k + 1, hlt, by simp, by rw [HST.out]; simp [HU.out, HV.out]; omega, rfl⟩
          case measure => simp [intOf]; omega
        | true =>
          have HU := Lib.hid hu
          have HV := Lib.hid hv
          have q1 := fun w => rin_any s u (by omega) hs w
          have q2 := fun w => rin_any s v (by omega) hs w
          rw [hu] at q1
          rw [hv] at q2
          clear hu hv
          go_wp2_with fail
          refine (q1 _).mono ?_
          rintro e w' ⟨rfl, rfl⟩
          go_wp2_with fail
          refine (q1 _).mono ?_
          rintro e w' ⟨rfl, rfl⟩
          go_wp2_with fail
          refine (q2 _).mono ?_
          rintro e w' ⟨rfl, rfl⟩
          skip
          go_wp2_with fail
          go_roundw
          case rel => exact ⟨k + 1, hlt, by simp, by rw [HST.out]; simp [HU.out, HV.out], rfl⟩
          case measure => simp [intOf]; omega
    · obtain rfl : k = L.length := by omega
      rw [List.take_length]
      go_wp2_with fail
      go_ret
      exact ⟨rfl, rfl⟩

end Go.Proofs.Ythaoclocachbaaa
