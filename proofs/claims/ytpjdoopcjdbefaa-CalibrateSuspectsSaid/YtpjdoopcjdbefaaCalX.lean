/- Contract: the suspects of the reference; the walk of CalibrateFinds. -/
import Derived.Test.YtpjdoopcjdbefaaCalW
import Derived.Test.YtpjdoopcjdbefaaCalO
namespace Go.Proofs.Ytpjdoopcjdbefaa
set_option linter.unusedVariables false
set_option linter.unusedSimpArgs false
open Go.RowKit

/-- The best set so far, as the reference holds it. -/
def Held (w : World) (best : Option (List Nat)) (vb vf : Value) : Prop := vf = .bool best.isSome ∧ RowIn w vb 1 encN (best.getD [])
theorem Held.step {w w' : World} {best : Option (List Nat)} {vb vf : Value} (h : Held w best vb vf) (hb : Below w.heap.size w w') : Held w' best vb vf := ⟨h.1, h.2.step hb⟩
def RsRel (w1 : World) (n X : Nat) (C : List (Nat × Nat)) (vb vf set : Value) (wr : World) : Prop := ∃ k : Nat, k ≤ X ∧ set = .int .i64 k ∧ Below w1.heap.size w1 wr ∧ Held wr (scanR (fun v => covS C (setR v)) (fun v => mems (setR v) 0 n) k) vb vf
def RcRel (w1 : World) (v : Nat) (C : List (Nat × Nat)) (cov i : Value) (wr : World) : Prop := ∃ k : Nat, k ≤ C.length ∧ i = .int .i64 k ∧ cov = .bool (covS (C.take k) (setR v)) ∧ wr = w1
theorem stepR_none {cov : Nat → Bool} {mem : Nat → List Nat} {v : Nat} (h : cov v = true) : stepR cov mem v none = some (mem v) := by unfold stepR; rw [if_pos h]
theorem stepR_less {cov : Nat → Bool} {mem : Nat → List Nat} {v : Nat} {x : List Nat} (h : cov v = true) (hl : lessL (mem v) x = true) : stepR cov mem v (some x) = some (mem v) := by unfold stepR; rw [if_pos h]; dsimp only; rw [if_pos hl]
theorem stepR_more {cov : Nat → Bool} {mem : Nat → List Nat} {v : Nat} {x : List Nat} (h : cov v = true) (hl : lessL (mem v) x = false) : stepR cov mem v (some x) = some x := by unfold stepR; rw [if_pos h]; dsimp only; rw [if_neg (by rw [hl]; simp)]
theorem bit_at {v A : Nat} (hv : v < 65536) : (bits .and .i64 ((v : Int) / (2 : Int) ^ A) 1 == 1) = setR v A := by
  rw [bit_of hv]
  cases setR v A <;> rfl

set_option maxRecDepth 100000 in
set_option maxHeartbeats 8000000 in
theorem rsuspects_any {w : World} {vs vl : Value} {S : List Sc} {l : List Pr} (hs : RowIn w vs 6 encS S) (hl : RowIn w vl 5 encQ l) : ∀ hE : conE S l = 0, Calls Try.prog 17 #[vs, vl] w (natOut w ((bestR S.length (conP S l)).getD []) 0) := by
  intro h0
  have hco := fun w hs hl => rconflicts_any (w := w) (vs := vs) (vl := vl) (S := S) (l := l) hs hl
  obtain ⟨g1, _, g3, g4⟩ := conE_ok h0
  rw [h0] at hco
  have HC := Lib.hid fun i hi => conL_mem (S := S) (l := l) (i := i) hi
  have hP : conP S l = (conL S l).map fun i => ((l.getD i pr0).a.toNat, (l.getD i pr0).b.toNat) := rfl
  generalize conP S l = CP at *
  generalize conL S l = C at *
  have HP := Lib.hid hP
  clear hP h0 g4
  obtain ⟨sa, cs, rfl, s1, s2, _, _⟩ := hs.at_
  unfold maxLen at s2
  have hpw : (2 : Nat) ^ S.length ≤ 65536 := (Nat.pow_le_pow_right (by omega) g1 : 2 ^ S.length ≤ 2 ^ 16)
  have gN : (S.length : Int) ≤ 16 ∧ (0 : Int) ≤ S.length := by omega
  obtain ⟨gN1, gN2⟩ := gN
  have hsh : wrap64 ((2 : Int) ^ S.length) = ((2 ^ S.length : Nat) : Int) := by
    have e : (2 : Int) ^ S.length = ((2 ^ S.length : Nat) : Int) := by simp
    rw [e]
    generalize (2 : Nat) ^ S.length = x at *
    unfold wrap64; omega
  obtain ⟨X, hX⟩ : ∃ X, X = (2 : Nat) ^ S.length := ⟨_, rfl⟩
  rw [← hX] at hpw hsh
  have HX := Lib.hid hX
  clear hX
  have hcl : CP.length = C.length := by rw [HP.out]; simp
  go_enter Try.func17, Try.ntmps17
  go_wp2_with fail
  refine (hco _ hs hl).mono ?_
  rintro e w1 ⟨v1, rfl, R1, hb1⟩
  obtain ⟨ca, cc, rfl, c1, c2, _, hc5⟩ := R1.at_
  unfold maxLen at c2
  replace hl := hl.step hb1
  clear hco hs
  obtain ⟨la, cl, rfl, l1, l2, _, hl5⟩ := hl.at_
  unfold maxLen at l2
  have HL := Lib.hid hl5
  have HR := Lib.hid hc5
  clear hl5 hc5 hl R1
  have hz1 := hb1.size
  go_wp2_with fail
  go_loopw [8, 9, 10] (fun vb vf set wr => RsRel w1 S.length X CP vb vf set wr) (fun _ _ set _ => (X - intOf set).toNat)
  case atStart => exact ⟨0, Nat.zero_le _, rfl, Below.refl _ _, rfl, .nil _ _ _⟩
  case round =>
    obtain ⟨v, hv, rfl, hbr, hH⟩ := hrel
    have hwr := hbr.size
    have hb3 := hb1.trans (hbr.mono hz1)
    have hv0 : (0 : Int) ≤ v := by omega
    have hHN : scanR (fun v => covS CP (setR v)) (fun v => mems (setR v) 0 S.length) (v + 1) = stepR (fun v => covS CP (setR v)) (fun v => mems (setR v) 0 S.length) v (scanR (fun v => covS CP (setR v)) (fun v => mems (setR v) 0 S.length) v) := rfl
    obtain ⟨best, hbest⟩ : ∃ best, best = scanR (fun v => covS CP (setR v)) (fun v => mems (setR v) 0 S.length) v := ⟨_, rfl⟩
    rw [← hbest] at hH hHN
    have HBE := Lib.hid hbest
    have HHN := Lib.hid hHN
    clear hbest hHN
    obtain ⟨rfl, hR⟩ := hH
    by_cases hlt : v < X
    · have hvi : (v : Int) < (X : Int) := by omega
      have hv6 : v < 65536 := by omega
      go_wp2_with fail
      go_loopw [11, 33] (fun cov i wz => RcRel wr v CP cov i wz) (fun _ i _ => (C.length - intOf i).toNat)
      case atStart => exact ⟨0, Nat.zero_le _, rfl, rfl, rfl⟩
      case round =>
        obtain ⟨k, hk, rfl, rfl, rfl⟩ := hrel
        by_cases hkl : k < CP.length
        · have hkc : k < C.length := by omega
          have hki : (k : Int) < C.length := by omega
          obtain ⟨ob, oo, hoo, hoz, hoc⟩ := HR.out (by rintro rfl; simp at hkc)
          subst hoo
          have hx := getD_of (d := 0) hkc
          have e0 : World.cell? wr ⟨ob, oo + k, none⟩ = some (.int .i64 ((C.getD k 0 : Nat) : Int)) := by
            have := hoc k _ hx 0 (by omega)
            rw [Nat.mul_one, Nat.add_zero] at this
            exact (hbr.cell (p := ⟨ob, oo + k, none⟩) hoz).trans this
          obtain ⟨_, hil, hpe⟩ := HC.out _ (List.mem_of_getElem? hx)
          have hpr := prE_ok hpe
          have hcp : CP[k]? = some ((l.getD (C.getD k 0) pr0).a.toNat, (l.getD (C.getD k 0) pr0).b.toNat) := by rw [HP.out, List.getElem?_map, hx]; rfl
          obtain ⟨lb, lo, hlo, hlz, hlc⟩ := HL.out (by rintro rfl; simp at hil)
          subst hlo
          generalize C.getD k 0 = q at *
          have hq := hlc q _ (getD_of (d := pr0) hil)
          have hstep := covS_take (S := setR v) hcp
          generalize l.getD q pr0 = x at *
          obtain ⟨pa, pb, ps, pt, tm⟩ := x
          dsimp only at *
          obtain ⟨p1, p2, p3, p4, _⟩ := hpr
          obtain ⟨A, rfl⟩ : ∃ A : Nat, pa = A := ⟨pa.toNat, by omega⟩
          obtain ⟨B, rfl⟩ : ∃ B : Nat, pb = B := ⟨pb.toNat, by omega⟩
          have hA : (A : Int) ≤ 16 ∧ (0 : Int) ≤ A := by omega
          have hB : (B : Int) ≤ 16 ∧ (0 : Int) ≤ B := by omega
          obtain ⟨hA1, hA2⟩ := hA
          obtain ⟨hB1, hB2⟩ := hB
          have m0 : World.cell? wr ⟨lb, lo + q * 5, none⟩ = some (.int .i64 (A : Int)) := (hbr.cell (p := ⟨lb, lo + q * 5, none⟩) hlz).trans (hq 0 (by omega))
          have m1 : World.cell? wr ⟨lb, lo + q * 5 + 1, none⟩ = some (.int .i64 (B : Int)) := (hbr.cell (p := ⟨lb, lo + q * 5 + 1, none⟩) hlz).trans (hq 1 (by omega))
          have q0 : (0 : Int) ≤ q ∧ (q : Int) < l.length := by omega
          obtain ⟨q0, q1⟩ := q0
          rw [Int.toNat_natCast, Int.toNat_natCast] at hstep
          have tA := bit_of (k := A) hv6
          have tB := bit_of (k := B) hv6
          clear hq hcp hx hoc hlc hpe p1 p2 p3 p4
          cases hcov : covS (CP.take k) (setR v) with
          | false =>
            rw [hcov, Bool.false_and] at hstep
            have HST := Lib.hid hstep
            clear hstep hcov tA tB
            go_wp2_with fail
            go_roundw
            case rel => exact ⟨k + 1, hkl, by simp, by rw [HST.out], rfl⟩
            case measure => simp [intOf]; omega
          | true =>
            rw [hcov, Bool.true_and] at hstep
            cases hsA : setR v A with
            | true =>
              rw [hsA, if_pos rfl] at tA
              have HST := Lib.hid (hstep.trans (by rw [hsA, Bool.true_or]))
              clear hstep hcov tB hsA
              go_wp2_with fail
              go_roundw
              case rel => exact ⟨k + 1, hkl, by simp, by rw [HST.out], rfl⟩
              case measure => simp [intOf]; omega
            | false =>
              rw [hsA, if_neg (by simp)] at tA
              rw [hsA, Bool.false_or] at hstep
              cases hsB : setR v B with
              | true =>
                rw [hsB, if_pos rfl] at tB
                have HST := Lib.hid (hstep.trans hsB)
                clear hstep hcov hsA hsB
                go_wp2_with fail
                go_roundw
                case rel => exact ⟨k + 1, hkl, by simp, by rw [HST.out], rfl⟩
                case measure => simp [intOf]; omega
              | false =>
                rw [hsB, if_neg (by simp)] at tB
                have HST := Lib.hid (hstep.trans hsB)
                clear hstep hcov hsA hsB
                go_wp2_with fail
                go_roundw
                case rel => exact ⟨k + 1, hkl, by simp, by rw [HST.out], rfl⟩
                case measure => simp [intOf]; omega
        · obtain rfl : k = CP.length := by omega
          rw [List.take_length]
          rw [hcl] at *
          cases hcov : covS CP (setR v) with
          | false =>
            have HN2 := Lib.hid (HHN.out.trans (show stepR (fun v => covS CP (setR v)) (fun v => mems (setR v) 0 S.length) v best = best from if_neg (fun h => by have h1 : covS CP (setR v) = true := h; rw [hcov] at h1; cases h1)))
            clear hcov
            go_wp2_with fail
            go_roundw
            case rel => exact ⟨v + 1, hlt, by simp, hbr, by rw [HN2.out], by rw [HN2.out]; exact hR⟩
            case measure => simp [intOf]; omega
          | true =>
            have hmb := fun w => members_any S.length v g1 hv6 w
            have HCV := Lib.hid hcov
            clear hcov
            cases best with
            | none =>
              have HN3 := Lib.hid (HHN.out.trans (stepR_none HCV.out))
              go_wp2_with fail
              refine (hmb _).mono ?_
              rintro e w5 ⟨v5, rfl, R5, hb5⟩
              replace hbr := hbr.trans (hb5.mono hbr.size)
              go_wp2_with fail
              go_roundw
              case rel => exact ⟨v + 1, hlt, by simp, hbr, by rw [HN3.out]; rfl, by rw [HN3.out]; exact R5⟩
              case measure => simp [intOf]; omega
            | some x =>
              have hR' : RowIn wr u8 1 encN x := hR
              go_wp2_with fail
              refine (hmb _).mono ?_
              rintro e w5 ⟨v5, rfl, R5, hb5⟩
              replace hbr := hbr.trans (hb5.mono hbr.size)
              have hls := less_any R5 (hR'.step hb5)
              cases hlx : lessL (mems (setR v) 0 S.length) x with
              | true =>
                rw [hlx] at hls
                have HN3 := Lib.hid (HHN.out.trans (stepR_less HCV.out hlx))
                clear hlx
                go_wp2_with fail
                refine hls.mono ?_
                rintro e w6 ⟨rfl, hb6⟩
                replace hbr := hbr.trans (hb6.mono hbr.size)
                go_wp2_with fail
                go_roundw
                case rel => exact ⟨v + 1, hlt, by simp, hbr, by rw [HN3.out]; rfl, by rw [HN3.out]; exact R5.step hb6⟩
                case measure => simp [intOf]; omega
              | false =>
                rw [hlx] at hls
                have HN3 := Lib.hid (HHN.out.trans (stepR_more HCV.out hlx))
                clear hlx
                go_wp2_with fail
                refine hls.mono ?_
                rintro e w6 ⟨rfl, hb6⟩
                replace hbr := hbr.trans (hb6.mono hbr.size)
                go_wp2_with fail
                go_roundw
                case rel => exact ⟨v + 1, hlt, by simp, hbr, by rw [HN3.out]; rfl, by rw [HN3.out]; exact (hR'.step hb5).step hb6⟩
                case measure => simp [intOf]; omega
    · obtain rfl : v = X := by omega
      go_wp2_with fail
      refine bodyPost_ret (v := .tuple #[u8, .int .i64 0]) (by simp only [results, Try.results17]; go_simp; first | done | rfl) rfl ?_
      refine ⟨_, rfl, ?_, hb3⟩
      have : bestR S.length CP = best := by rw [HBE.out, HX.out]; rfl
      rw [this]
      exact hR

end Go.Proofs.Ytpjdoopcjdbefaa
