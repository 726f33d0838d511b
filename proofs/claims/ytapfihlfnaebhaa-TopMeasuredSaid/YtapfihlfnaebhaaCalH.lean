/- Contract: the suspects of the program. -/
import Derived.Test.YtapfihlfnaebhaaCalA
import Derived.Test.YtapfihlfnaebhaaCalG
import Derived.BigQuiet
namespace Go.Proofs.Ytapfihlfnaebhaa
set_option linter.unusedVariables false
set_option linter.unusedSimpArgs false
open Go.RowKit

/-- The conflicts as pairs of scales. -/
noncomputable def conP (S : List Sc) (l : List Pr) : List (Nat × Nat) := (conL S l).map fun i => ((l.getD i pr0).a.toNat, (l.getD i pr0).b.toNat)
theorem conL_mem {S : List Sc} {l : List Pr} {i : Nat} (h : i ∈ conL S l) : conE S l = 0 ∧ i < l.length ∧ prE S (l.getD i pr0) = 0 := by
  unfold conL at h
  split at h
  · rename_i h0
    obtain ⟨h1, _⟩ := conTo_mem h
    refine ⟨h0, h1, (conE_ok h0).2.2.2 _ (List.mem_of_getElem? (getD_of h1))⟩
  · simp at h
theorem conP_ok (S : List Sc) (l : List Pr) : ∀ p ∈ conP S l, p.1 < S.length ∧ p.2 < S.length := by
  intro p hp
  obtain ⟨i, hi, rfl⟩ := List.mem_map.1 hp
  obtain ⟨_, _, h⟩ := conL_mem hi
  have := prE_ok h
  dsimp only
  omega
/-- The suspects. -/
noncomputable def susL (S : List Sc) (l : List Pr) : List Nat := if conL S l = [] then [] else mems (setP S.length (bestP S.length (conP S l))) 0 S.length
theorem test_and_or {v a b : Nat} : ((v &&& (2 ^ a ||| 2 ^ b)) != 0) = (v.testBit a || v.testBit b) := by
  rw [Bool.eq_iff_iff, bne_iff_ne, ne_eq, Bool.or_eq_true]
  constructor
  · intro h
    obtain ⟨i, hi⟩ := Nat.exists_testBit_of_ne_zero h
    rw [Nat.testBit_and, Nat.testBit_or, Nat.testBit_two_pow, Nat.testBit_two_pow, Bool.and_eq_true, Bool.or_eq_true, decide_eq_true_iff, decide_eq_true_iff] at hi
    rcases hi with ⟨h1, rfl | rfl⟩
    · exact .inl h1
    · exact .inr h1
  · intro h h0
    have key : ∀ i, v.testBit i = true → (i = a ∨ i = b) → False := fun i hi hab => by
      have : (v &&& (2 ^ a ||| 2 ^ b)).testBit i = false := by rw [h0]; simp
      rw [Nat.testBit_and, Nat.testBit_or, Nat.testBit_two_pow, Nat.testBit_two_pow, hi] at this
      rcases hab with rfl | rfl <;> simp at this
    rcases h with h | h
    · exact key a h (.inl rfl)
    · exact key b h (.inr rfl)
theorem test_and {v a : Nat} : ((v &&& 2 ^ a) != 0) = v.testBit a := by
  have := test_and_or (v := v) (a := a) (b := a)
  simpa using this
theorem cell_drewN (w : World) (p : Addr) : ∀ n, (w.drewN n).cell? p = w.cell? p
  | 0 => rfl
  | n + 1 => cell_drewN w.drew p n
theorem below_drewN' {w : World} : ∀ n, Below w.heap.size w (w.drewN n) := by
  intro n
  induction n with
  | zero => exact Below.refl _ _
  | succ n ih => exact ih.drew
theorem scan_lt {cov : Nat → Bool} {cnt : Nat → Nat} {N : Nat} (hN : 1 ≤ N) : ∀ j, j ≤ N → scanP cov cnt N j < N
  | 0, _ => by rw [scanP]; omega
  | j + 1, h => by
    have := scan_lt (cov := cov) (cnt := cnt) hN j (by omega)
    rw [scanP]
    unfold stepP
    split <;> omega
theorem covS_take {S : Nat → Bool} {C : List (Nat × Nat)} {k : Nat} {p : Nat × Nat} (h : C[k]? = some p) : covS (C.take (k + 1)) S = (covS (C.take k) S && (S p.1 || S p.2)) := by
  unfold covS
  rw [List.take_add_one, h, List.all_append]
  simp
theorem stepP_yes {cov : Nat → Bool} {cnt : Nat → Nat} {v b : Nat} (h1 : cov v = true) (h2 : cnt v < cnt b) : stepP cov cnt v b = v := if_pos ⟨h1, h2⟩
theorem stepP_no {cov : Nat → Bool} {cnt : Nat → Nat} {v b : Nat} (h : ¬ cnt v < cnt b) : stepP cov cnt v b = b := if_neg fun h' => h h'.2
def SuRel (wa : World) (n X : Nat) (C : List (Nat × Nat)) (best set : Value) (wr : World) : Prop := ∃ j : Nat, j ≤ X ∧ set = .int .i64 ((X : Nat) - 1 - (j : Int)) ∧ best = .int .i64 (scanP (fun v => covS C (setP n v)) (fun v => (mems (setP n v) 0 n).length) X j : Nat) ∧ Below wa.heap.size wa wr
def ScRel (wa : World) (n v : Nat) (C : List (Nat × Nat)) (cov i : Value) (wr : World) : Prop := ∃ k : Nat, k ≤ C.length ∧ i = .int .i64 k ∧ cov = .bool (covS (C.take k) (setP n v)) ∧ Below wa.heap.size wa wr
def SoRel (wa : World) (C : List Nat) (n v : Nat) (o i : Value) (wr : World) : Prop := ∃ k : Nat, k ≤ n ∧ i = .int .i64 k ∧ Below wa.heap.size wa wr ∧ ∃ L : List Nat, L.length ≤ k ∧ wr.ownsRow wa.heap.size 3 1 o L.length (rowOf encN L) ∧ (if C = [] then L = [] else mems (setP n v) 0 n = L ++ mems (setP n v) k (n - k))

set_option maxRecDepth 100000 in
set_option maxHeartbeats 8000000 in
theorem suspects_any {w : World} {vs vl : Value} {S : List Sc} {l : List Pr} (hs : RowIn w vs 6 encS S) (hl : RowIn w vl 5 encQ l) : Calls Try.prog 22 #[vs, vl] w (natOut w (susL S l) (conE S l)) := by
  have hco := fun w hs hl => conflicts_any (w := w) (vs := vs) (vl := vl) (S := S) (l := l) hs hl
  by_cases h0 : conE S l = 0
  case neg =>
    have h0' : (conE S l != 0) = true := by simpa using h0
    have hS : susL S l = [] := by unfold susL; rw [if_pos (conL_no h0)]
    rw [hS]
    rw [conL_no h0] at hco
    clear hS h0
    generalize conE S l = E at *
    go_enter Try.func22, Try.ntmps22
    go_wp2_with fail
    refine (hco _ hs hl).mono ?_
    rintro e w1 ⟨v1, rfl, R1, hb1⟩
    go_wp2_with fail
    refine bodyPost_ret (v := .tuple #[.slice none 0 0, .int .i64 E]) (by simp only [results, Try.results22]; go_simp; first | done | rfl) rfl ?_
    exact ⟨_, rfl, .nil _ _ _, hb1⟩
  obtain ⟨g1, _, g3, g4⟩ := conE_ok h0
  rw [h0] at hco ⊢
  have HC := Lib.hid fun i hi => conL_mem (S := S) (l := l) (i := i) hi
  have hP : conP S l = (conL S l).map fun i => ((l.getD i pr0).a.toNat, (l.getD i pr0).b.toNat) := rfl
  have HCP := Lib.hid (conP_ok S l)
  have hS : susL S l = if conL S l = [] then [] else mems (setP S.length (bestP S.length (conP S l))) 0 S.length := rfl
  generalize susL S l = SUS at *
  generalize conP S l = CP at *
  generalize conL S l = C at *
  have HS := Lib.hid hS
  have HP := Lib.hid hP
  clear hS hP h0 g4
  have hsl := hs
  obtain ⟨sa, cs, rfl, s1, s2, _, _⟩ := hs.at_
  unfold maxLen at s2
  have hpw : (2 : Nat) ^ S.length ≤ 65536 := (Nat.pow_le_pow_right (by omega) g1 : 2 ^ S.length ≤ 2 ^ 16)
  have hpos : 1 ≤ (2 : Nat) ^ S.length := Nat.one_le_two_pow
  have gN : (S.length : Int) ≤ 16 ∧ (0 : Int) ≤ S.length := by omega
  obtain ⟨gN1, gN2⟩ := gN
  have hsh : wrap64 ((2 : Int) ^ S.length) = ((2 ^ S.length : Nat) : Int) := by
    have e : (2 : Int) ^ S.length = ((2 ^ S.length : Nat) : Int) := by simp
    rw [e]
    generalize (2 : Nat) ^ S.length = x at *
    unfold wrap64; omega
  obtain ⟨X, hX⟩ : ∃ X, X = (2 : Nat) ^ S.length := ⟨_, rfl⟩
  rw [← hX] at hpw hpos hsh
  have HX := Lib.hid hX
  clear hX
  go_enter Try.func22, Try.ntmps22
  go_wp2_with fail
  refine (hco _ hs hl).mono ?_
  rintro e w1 ⟨v1, rfl, R1, hb1⟩
  obtain ⟨ca, cc, rfl, c1, c2, _, hc5⟩ := R1.at_
  unfold maxLen at c2
  replace hl := hl.step hb1
  have hb2 : Below w.heap.size w (w1.alloc (.cells #[.int .i64 (S.length : Int)] 3)) := by have := hb1.size; repeat (first | (with_reducible exact Below.refl _ _) | (with_reducible assumption) | (with_reducible refine Below.drew ?_) | ((with_reducible refine Below.alloc ?_ ?_ _); rotate_left; (first | (with_reducible exact Nat.zero_le _) | (with_reducible exact Nat.le_refl _) | omega | (dsimp only; omega) | (simp only [World.size_alloc, World.size_setCell, World.size_drew]; omega))) | ((with_reducible refine Below.setCell ?_ ?_ _); rotate_left; (first | (with_reducible exact Nat.zero_le _) | (with_reducible exact Nat.le_refl _) | omega | (dsimp only; omega) | (simp only [World.size_alloc, World.size_setCell, World.size_drew]; omega))))
  clear hco hs
  obtain ⟨la, cl, rfl, l1, l2, _, hl5⟩ := hl.at_
  unfold maxLen at l2
  have HL := Lib.hid hl5
  have HR := Lib.hid hc5
  clear hl5 hc5 hl R1
  have hcl : CP.length = C.length := by rw [HP.out]; simp
  have BN := Blk.new w1 3 #[.int .i64 (S.length : Int)]
  have hbw : Below w1.heap.size w1 (w1.alloc (.cells #[.int .i64 (S.length : Int)] 3)) := by repeat (first | (with_reducible exact Below.refl _ _) | (with_reducible assumption) | (with_reducible refine Below.drew ?_) | ((with_reducible refine Below.alloc ?_ ?_ _); rotate_left; (first | (with_reducible exact Nat.zero_le _) | (with_reducible exact Nat.le_refl _) | omega | (dsimp only; omega) | (simp only [World.size_alloc, World.size_setCell, World.size_drew]; omega))) | ((with_reducible refine Below.setCell ?_ ?_ _); rotate_left; (first | (with_reducible exact Nat.zero_le _) | (with_reducible exact Nat.le_refl _) | omega | (dsimp only; omega) | (simp only [World.size_alloc, World.size_setCell, World.size_drew]; omega))))
  go_wp2_with fail
  clear hsh
  have hst : (X : Int) - 1 = (X : Nat) - 1 - ((0 : Nat) : Int) := by omega
  have hlt1 := BN.lt
  generalize hwa : w1.alloc (.cells #[.int .i64 (S.length : Int)] 3) = wa at *
  go_loopw [10, 11] (fun best set wr => SuRel wa S.length X CP best set wr) (fun _ set _ => (intOf set + 1).toNat)
  case atStart => exact ⟨0, Nat.zero_le _, by rw [← hst], by rw [scanP, Int.ofNat_sub hpos]; rfl, Below.refl _ _⟩
  case round =>
    clear hst
    obtain ⟨j, hj, rfl, rfl, hbr⟩ := hrel
    obtain ⟨best, hbest⟩ : ∃ best, best = scanP (fun v => covS CP (setP S.length v)) (fun v => (mems (setP S.length v) 0 S.length).length) X j := ⟨_, rfl⟩
    have HBE := Lib.hid hbest
    rw [← hbest]
    have HBD := Lib.hid (scan_lt (cov := fun v => covS CP (setP S.length v)) (cnt := fun v => (mems (setP S.length v) 0 S.length).length) hpos j hj)
    clear hbest
    have hb3 := hb2.trans (hbr.mono hb2.size)
    have BNr := BN.step hbr
    have hwr := hbr.size
    by_cases hlt : j < X
    · obtain ⟨v, hv⟩ : ∃ v : Nat, v = X - 1 - j := ⟨_, rfl⟩
      have hv' : ((X : Nat) : Int) - 1 - (j : Int) = (v : Int) := by omega
      have hvX : v < X := by omega
      have hv0 : (0 : Int) ≤ v := by omega
      have hvj : (X : Int) - 1 - ((j + 1 : Nat) : Int) = (v : Int) - 1 := by omega
      have hmeas : (v : Int) - 1 < ((X : Nat) : Int) - 1 - (j : Int) := by omega
      have hbX : best < X := by rw [HBE.out]; exact HBD.out
      rw [hv']
      have HNX := Lib.hid (show scanP (fun v => covS CP (setP S.length v)) (fun v => (mems (setP S.length v) 0 S.length).length) X (j + 1) = stepP (fun v => covS CP (setP S.length v)) (fun v => (mems (setP S.length v) 0 S.length).length) v best by rw [scanP, HBE.out, hv])
      have HVJ := Lib.hid hvj
      have HME := Lib.hid hmeas
      have HJ := Lib.hid hlt
      clear hvj hmeas hlt hv hv' hj HBE HBD
      go_wp2_with fail
      go_loopw [12, 39] (fun cov i wz => ScRel wa S.length v CP cov i wz) (fun _ i _ => (C.length - intOf i).toNat)
      case atStart => exact ⟨0, Nat.zero_le _, rfl, rfl, hbr⟩
      case round =>
        clear hb3 BNr hwr hbr
        obtain ⟨k, hk, rfl, rfl, hbr⟩ := hrel
        have hb3 := hb2.trans (hbr.mono hb2.size)
        have BNr := BN.step hbr
        have hwr := hbr.size
        by_cases hkl : k < CP.length
        · have hkc : k < C.length := by omega
          have hki : (k : Int) < C.length := by omega
          obtain ⟨ob, oo, hoo, hoz, hoc⟩ := HR.out (by rintro rfl; simp at hkc)
          subst hoo
          have hx := getD_of (d := 0) hkc
          have e0 : World.cell? wr ⟨ob, oo + k, none⟩ = some (.int .i64 ((C.getD k 0 : Nat) : Int)) := by
            have := hoc k _ hx 0 (by omega)
            rw [Nat.mul_one, Nat.add_zero] at this
            exact ((hbw.trans (hbr.mono hbw.size)).cell (p := ⟨ob, oo + k, none⟩) hoz).trans this
          obtain ⟨_, hil, hpe⟩ := HC.out _ (List.mem_of_getElem? hx)
          have hpr := prE_ok hpe
          have hcp : CP[k]? = some ((l.getD (C.getD k 0) pr0).a.toNat, (l.getD (C.getD k 0) pr0).b.toNat) := by rw [HP.out, List.getElem?_map, hx]; rfl
          obtain ⟨lb, lo, hlo, hlz, hlc⟩ := HL.out (by rintro rfl; simp at hil)
          subst hlo
          generalize C.getD k 0 = q at *
          have hq := hlc q _ (getD_of (d := pr0) hil)
          have hstep := covS_take (S := setP S.length v) hcp
          generalize l.getD q pr0 = x at *
          obtain ⟨pa, pb, ps, pt, tm⟩ := x
          dsimp only at *
          obtain ⟨p1, p2, p3, p4, _⟩ := hpr
          obtain ⟨A, rfl⟩ : ∃ A : Nat, pa = A := ⟨pa.toNat, by omega⟩
          obtain ⟨B, rfl⟩ : ∃ B : Nat, pb = B := ⟨pb.toNat, by omega⟩
          have hA : A < S.length := by omega
          have hB : B < S.length := by omega
          have m0 : World.cell? wr ⟨lb, lo + q * 5, none⟩ = some (.int .i64 (A : Int)) := ((hbw.trans (hbr.mono hbw.size)).cell (p := ⟨lb, lo + q * 5, none⟩) hlz).trans (hq 0 (by omega))
          have m1 : World.cell? wr ⟨lb, lo + q * 5 + 1, none⟩ = some (.int .i64 (B : Int)) := ((hbw.trans (hbr.mono hbw.size)).cell (p := ⟨lb, lo + q * 5 + 1, none⟩) hlz).trans (hq 1 (by omega))
          have q0 : (0 : Int) ≤ q ∧ (q : Int) < l.length := by omega
          obtain ⟨q0, q1⟩ := q0
          rw [Int.toNat_natCast, Int.toNat_natCast] at hstep
          clear hq hcp hx hoc hlc hpe p1 p2 p3 p4
          cases hcov : covS (CP.take k) (setP S.length v) with
          | false =>
            rw [hcov, Bool.false_and] at hstep
            have HST := Lib.hid hstep
            clear hstep hcov
            go_wp2_with fail
            go_quiet (fail)
            go_wp2_with fail
            go_roundw
            case rel => exact ⟨k + 1, hkl, by simp, by rw [HST.out], hbr.trans ((below_drewN' nq).mono hbr.size)⟩
            case measure => simp [intOf]; omega
          | true =>
            rw [hcov, Bool.true_and] at hstep
            have hta : setP S.length v A = v.testBit (S.length - 1 - A) := rfl
            have htb : setP S.length v B = v.testBit (S.length - 1 - B) := rfl
            rw [hta, htb, ← test_and_or] at hstep
            have HST := Lib.hid hstep
            clear hstep hcov hta htb
            have kA := fun (w : World) hc => bit_any (w := w) (b := w1.heap.size) S.length A hA g1 hc
            have kB := fun (w : World) hc => bit_any (w := w) (b := w1.heap.size) S.length B hB g1 hc
            have hpA : 2 ^ (S.length - 1 - A) < X := by rw [HX.out]; exact Nat.pow_lt_pow_right (by omega) (by omega)
            have hpB : 2 ^ (S.length - 1 - B) < X := by rw [HX.out]; exact Nat.pow_lt_pow_right (by omega) (by omega)
            have hor : 2 ^ (S.length - 1 - A) ||| 2 ^ (S.length - 1 - B) < X := by rw [HX.out]; exact Nat.or_lt_two_pow (Nat.pow_lt_pow_right (by omega) (by omega)) (Nat.pow_lt_pow_right (by omega) (by omega))
            generalize 2 ^ (S.length - 1 - A) = PA at *
            generalize 2 ^ (S.length - 1 - B) = PB at *
            have e1 : bits .or .i64 (PA : Int) (PB : Int) = ((PA ||| PB : Nat) : Int) := i64_or (by omega) (by omega)
            have e2 : bits .and .i64 (v : Int) ((PA ||| PB : Nat) : Int) = ((v &&& (PA ||| PB) : Nat) : Int) := i64_and (by omega) (by omega)
            generalize PA ||| PB = PO at *
            generalize v &&& PO = PR at *
            have cN := BNr.cell
            by_cases hr : PR = 0
            · have hr0 : ((PR : Int) != 0) = false := by simp [hr]
              go_wp2_with fail
              go_quiet (first | (go_at_call 54; refine Calls.quiet_of_same (kA _ (by rw [cell_drewN]; exact cN 0))) | (go_at_call 54; refine Calls.quiet_of_same (kB _ (by rw [cell_drewN]; exact cN 0))))
              go_wp2_with fail
              go_roundw
              case rel => exact ⟨k + 1, hkl, by simp, by rw [HST.out]; simp [hr], hbr.trans ((below_drewN' nq).mono hbr.size)⟩
              case measure => simp [intOf]; omega
            · have hr0 : ((PR : Int) != 0) = true := by simp; omega
              have hr1 : (PR != 0) = true := by simp; omega
              go_wp2_with fail
              go_quiet (first | (go_at_call 54; refine Calls.quiet_of_same (kA _ (by rw [cell_drewN]; exact cN 0))) | (go_at_call 54; refine Calls.quiet_of_same (kB _ (by rw [cell_drewN]; exact cN 0))))
              go_wp2_with fail
              go_roundw
              case rel => exact ⟨k + 1, hkl, by simp, by rw [HST.out, hr1], hbr.trans ((below_drewN' nq).mono hbr.size)⟩
              case measure => simp [intOf]; omega
        · obtain rfl : k = CP.length := by omega
          rw [List.take_length]
          rw [hcl] at *
          have hvb : (v : Int) < 65536 ∧ (best : Int) < 65536 := by omega
          obtain ⟨hvb1, hvb2⟩ := hvb
          cases hcov : covS CP (setP S.length v) with
          | false =>
            have HN2 := Lib.hid (HNX.out.trans (show stepP (fun v => covS CP (setP S.length v)) (fun v => (mems (setP S.length v) 0 S.length).length) v best = best from if_neg (fun h => by have h1 : covS CP (setP S.length v) = true := h.1; rw [hcov] at h1; cases h1)))
            clear hcov
            go_wp2_with fail
            go_roundw
            case rel => exact ⟨j + 1, HJ.out, by rw [HVJ.out], by rw [HN2.out], hbr⟩
            case measure => have := HME.out; simp [intOf] <;> omega
          | true =>
            have o1 := fun w => ones0_any v (by omega) w
            have o2 := fun w => ones0_any best (by omega) w
            have HO := Lib.hid (And.intro (ones_mems (n := S.length) g1 (v := v) (by rw [← HX.out]; exact hvX)) (ones_mems (n := S.length) g1 (v := best) (by rw [← HX.out]; exact hbX)))
            have w1' : IntKind.u64.wrap (v : Int) = (v : Int) := wrap_u64n (by omega)
            have w2' : IntKind.u64.wrap (best : Int) = (best : Int) := wrap_u64n (by omega)
            generalize ones v = ov at *
            generalize ones best = ob at *
            by_cases hov : ov < ob
            · have HN4 := Lib.hid (HNX.out.trans (stepP_yes hcov (show (mems (setP S.length v) 0 S.length).length < (mems (setP S.length best) 0 S.length).length by rw [← HO.out.1, ← HO.out.2]; exact hov)))
              have hovi : (ov : Int) < (ob : Int) := by omega
              clear HNX hcov
              go_wp2_with fail
              refine (o1 _).mono ?_
              rintro e w5 ⟨rfl, rfl⟩
              go_wp2_with fail
              refine (o2 _).mono ?_
              rintro e w6 ⟨rfl, rfl⟩
              go_wp2_with fail
              go_roundw
              case rel => exact ⟨j + 1, HJ.out, by rw [HVJ.out], by rw [HN4.out], hbr⟩
              case measure => have := HME.out; simp [intOf] <;> omega
            · have HN4 := Lib.hid (HNX.out.trans (stepP_no (show ¬ (mems (setP S.length v) 0 S.length).length < (mems (setP S.length best) 0 S.length).length by rw [← HO.out.1, ← HO.out.2]; exact hov)))
              have hovi : ¬ (ov : Int) < (ob : Int) := by omega
              clear HNX hcov
              go_wp2_with fail
              refine (o1 _).mono ?_
              rintro e w5 ⟨rfl, rfl⟩
              go_wp2_with fail
              refine (o2 _).mono ?_
              rintro e w6 ⟨rfl, rfl⟩
              go_wp2_with fail
              go_roundw
              case rel => exact ⟨j + 1, HJ.out, by rw [HVJ.out], by rw [HN4.out], hbr⟩
              case measure => have := HME.out; simp [intOf] <;> omega
    · obtain rfl : j = X := by omega
      have hfin : best = bestP S.length CP := by rw [HBE.out, HX.out]; rfl
      have HFN := Lib.hid hfin
      have hbX : best < j := by rw [HBE.out]; exact HBD.out
      have hng : ((j : Int) - 1 - (j : Int)) = -1 := by omega
      rw [hng]
      clear hng
      clear hfin HBE HBD hlt
      have cN := BNr.cell
      have lN := BNr.lt
      obtain ⟨tj, ji, jz, jsi, jby⟩ := info_of (P := Try.prog) (t := 3) (z := .int .i64 0) (size := 1) (bytes := 8) (by kernel_rfl)
      go_wp2_with fail
      go_loopw [15, 77] (fun o i wz => SoRel wa C S.length best o i wz) (fun _ i _ => (S.length - intOf i).toNat)
      case atStart => exact ⟨0, Nat.zero_le _, rfl, hbr, [], Nat.zero_le _, ⟨by simp [rowOf], .inl ⟨rfl, rfl⟩⟩, by split <;> simp⟩
      case round =>
        clear hb3 BNr hwr hbr cN lN
        obtain ⟨k, hk, rfl, hbr, L, hLk, own, hL⟩ := hrel
        have hb3 := hb2.trans (hbr.mono hb2.size)
        have BNr := BN.step hbr
        have hwr := hbr.size
        have cN := BNr.cell
        have lN := BNr.lt
        by_cases hkl : k < S.length
        · have hki : (k : Int) < S.length := by omega
          have hk0 : (0 : Int) ≤ k := by omega
          by_cases hC : C = []
          · rw [if_pos hC] at hL
            subst hL
            have hc0 : (C.length : Int) = 0 := by simp [hC]
            have HC0 := Lib.hid hC
            clear hC
            go_wp2_with fail
            go_roundw
            case rel => exact ⟨k + 1, hkl, by simp, hbr, [], Nat.zero_le _, own, by rw [if_pos HC0.out]⟩
            case measure => simp [intOf]; omega
          · rw [if_neg hC] at hL
            have hc0 : (C.length : Int) > 0 := by
              have : C.length ≠ 0 := fun h => hC (List.eq_nil_of_length_eq_zero h)
              omega
            have HC0 := Lib.hid hC
            clear hC
            have hmk : mems (setP S.length best) k (S.length - k) = if setP S.length best k = true then k :: mems (setP S.length best) (k + 1) (S.length - (k + 1)) else mems (setP S.length best) (k + 1) (S.length - (k + 1)) := by
              rw [show S.length - k = (S.length - (k + 1)) + 1 by omega, mems]
            rw [hmk, show setP S.length best k = best.testBit (S.length - 1 - k) from rfl, ← test_and] at hL
            have HL2 := Lib.hid hL
            have kA := fun (w : World) hc => bit_any (w := w) (b := w1.heap.size) S.length k hkl g1 hc
            have hpA : 2 ^ (S.length - 1 - k) < j := by rw [HX.out]; exact Nat.pow_lt_pow_right (by omega) (by omega)
            clear hL hmk
            generalize 2 ^ (S.length - 1 - k) = PA at *
            have e2 : bits .and .i64 (best : Int) (PA : Int) = ((best &&& PA : Nat) : Int) := i64_and (by omega) (by omega)
            generalize best &&& PA = PR at *
            by_cases hr : PR = 0
            · have hr0 : ((PR : Int) != 0) = false := by simp [hr]
              go_wp2_with fail
              refine (kA _ (cN 0)).mono ?_
              rintro e w5 ⟨rfl, rfl⟩
              go_wp2_with fail
              go_roundw
              case rel => first | exact ⟨k + 1, hkl, by simp, hbr, L, by omega, own, by rw [if_neg HC0.out, HL2.out, if_neg (by simp [hr])]⟩ | ((repeat apply Exists.intro); refine ⟨⟨k + 1, hkl, ?_, hbr, L, by omega, own, by rw [if_neg HC0.out, HL2.out, if_neg (by simp [hr])]⟩, rfl⟩; simp)
              case measure => simp [intOf]; omega
            · have hr0 : ((PR : Int) != 0) = true := by simp; omega
              have hr1 : (PR != 0) = true := by simp; omega
              have BK := Blk.new wr 3 #[.int .i64 (k : Int)]
              have hb6 : Below wr.heap.size wr (wr.alloc (.cells #[.int .i64 (k : Int)] 3)) := by repeat (first | (with_reducible exact Below.refl _ _) | (with_reducible assumption) | (with_reducible refine Below.drew ?_) | ((with_reducible refine Below.alloc ?_ ?_ _); rotate_left; (first | (with_reducible exact Nat.zero_le _) | (with_reducible exact Nat.le_refl _) | omega | (dsimp only; omega) | (simp only [World.size_alloc, World.size_setCell, World.size_drew]; omega))) | ((with_reducible refine Below.setCell ?_ ?_ _); rotate_left; (first | (with_reducible exact Nat.zero_le _) | (with_reducible exact Nat.le_refl _) | omega | (dsimp only; omega) | (simp only [World.size_alloc, World.size_setCell, World.size_drew]; omega))))
              have own1 := ownsRow_step own hb6
              have hbx := hbr.trans (hb6.mono hwr)
              go_wp2_with fail
              refine (kA _ (cN 0)).mono ?_
              rintro e w5 ⟨rfl, rfl⟩
              go_wp2_with (at_builtin; refine wpList_append_any _ rfl _ _ _ rfl wa.heap.size 3 tj _ 1 8 Try.underlying24 ji jz jsi jby rfl (by omega) _ L.length _ rfl own1 _ 1 (encN k) rfl (Src.of_blk BK 1) rfl (fun u hu => oneN [k] u (by simpa [rowOf] using hu)) (by simp only [maxLen]; omega) (by omega) hbx.size ?_; intro v6 w6 own6 hg6 hat6)
              have hb7 := Below.grown hbx hg6 hbx.size (own_ge' own1)
              have own6' : w6.ownsRow wa.heap.size 3 1 v6 (L ++ [k]).length (rowOf encN (L ++ [k])) := by
                rw [rowOf_append, List.length_append]
                simpa [rowOf] using own6
              clear own6 own1 own hg6 hat6
              go_roundw
              case rel => first | exact ⟨k + 1, hkl, by simp, hb7, L ++ [k], by simp; omega, own6', by rw [if_neg HC0.out, HL2.out, if_pos hr1, List.append_assoc]; rfl⟩ | ((repeat apply Exists.intro); refine ⟨⟨k + 1, hkl, ?_, hb7, L ++ [k], by simp; omega, own6', by rw [if_neg HC0.out, HL2.out, if_pos hr1, List.append_assoc]; rfl⟩, rfl⟩; simp)
              case measure => simp [intOf]; omega
        · obtain rfl : k = S.length := by omega
          go_wp2_with fail
          refine bodyPost_ret (v := .tuple #[u15, .int .i64 0]) (by simp only [results, Try.results22]; go_simp; first | done | rfl) rfl ?_
          refine ⟨_, rfl, ?_, hb3⟩
          have : SUS = L := by
            rw [HS.out]
            by_cases hC : C = []
            · rw [if_pos hC] at hL ⊢; exact hL.symm
            · rw [if_neg hC] at hL ⊢
              rw [← HFN.out, hL, Nat.sub_self]
              simp [mems]
          rw [this]
          exact RowIn.of_own encN_len own

end Go.Proofs.Ytapfihlfnaebhaa
