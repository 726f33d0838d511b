/- The walk of BalanceTruth. -/
import Derived.Test.YthaoclocachbaaaBalN
import Derived.Test.YthaoclocachbaaaBalR
import Derived.Deep.DeepBigQuietO
namespace Go.Proofs.Ythaoclocachbaaa
set_option linter.unusedVariables false
set_option linter.unusedSimpArgs false
open Go.RowKit

/-! ### The plain law -/
def clampS (s : Sp) (x : Int) : Int := max s.lo (min s.hi x)
theorem clamp_in {s : Sp} (h : s.lo ≤ s.hi) (x : Int) : s.lo ≤ clampS s x ∧ clampS s x ≤ s.hi := by unfold clampS; omega
theorem clamp_if (s : Sp) (x : Int) : clampS s x = if s.lo < (if x < s.hi then x else s.hi) then (if x < s.hi then x else s.hi) else s.lo := by
  unfold clampS
  (repeat' split) <;> omega
def trAt (N : Nat) (o : List Sp) (l : List Tr) (ms : List Int) (i : Nat) : Int := if i < N then clampS (o.getD i sp0) (ms.getD i 0) else clampS (l.getD (i - N) tr0).mass (ms.getD i 0)
def trL (N : Nat) (o : List Sp) (l : List Tr) (ms : List Int) : List Int := (List.range (N + l.length)).map (trAt N o l ms)
theorem trL_len (N : Nat) (o : List Sp) (l : List Tr) (ms : List Int) : (trL N o l ms).length = N + l.length := by simp [trL]
theorem trL_get {N : Nat} {o : List Sp} {l : List Tr} {ms : List Int} {i : Nat} (h : i < N + l.length) : (trL N o l ms)[i]? = some (trAt N o l ms i) := by simp [trL, h]
theorem trL_getD {N : Nat} {o : List Sp} {l : List Tr} {ms : List Int} {i : Nat} (h : i < N + l.length) : (trL N o l ms).getD i 0 = trAt N o l ms i := by rw [List.getD_eq_getElem?_getD, trL_get h]; rfl
theorem node_in {N : Nat} {l : List Tr} {ms : List Int} {i : Nat} {s : Sp} (h0 : s.lo ≤ ms.getD i 0 ∧ ms.getD i 0 ≤ s.hi) : ∀ k, k ≤ l.length → (∀ j, j < k → (l.getD j tr0).mass.lo ≤ ms.getD (N + j) 0 ∧ ms.getD (N + j) 0 ≤ (l.getD j tr0).mass.hi) →
    (nodeS (l.take k) i s).lo ≤ nodeM N l ms i k ∧ nodeM N l ms i k ≤ (nodeS (l.take k) i s).hi
  | 0, _, _ => by simpa [nodeS, nodeM] using h0
  | k + 1, hk, hm => by
    have ih := node_in h0 k (by omega) fun j hj => hm j (by omega)
    have hx := hm k (by omega)
    have hg : l[k]? = some (l.getD k tr0) := getD_t (by omega)
    rw [nodeS_take hg, nodeM]
    unfold stepS mstep
    generalize l.getD k tr0 = t at *
    generalize nodeS (l.take k) i s = S at *
    generalize ms.getD (N + k) 0 = x at *
    generalize nodeM N l ms i k = y at *
    (repeat' split) <;> (try dsimp only) <;> omega
theorem truth_holds {N : Nat} {o : List Sp} {l : List Tr} {ms : List Int} (h : bchk N o l = 0) (hv : allV (stkL o l) = true) : holdsB N o l (stkL o l) (trL N o l ms) = true := by
  have hB := bchk_ok h
  have hol : o.length = N := by have := hB.len; omega
  have hA : bchkA N o l (stkL o l) = 0 := by
    unfold bchkA
    rw [if_neg (by simp [h]), if_neg (by rw [stkL_len]; omega), if_neg (by rw [hv]; decide)]
  have hin : ∀ i, i < N → (o.getD i sp0).lo ≤ (trL N o l ms).getD i 0 ∧ (trL N o l ms).getD i 0 ≤ (o.getD i sp0).hi := fun i hi => by
    rw [trL_getD (by omega), trAt, if_pos hi]
    exact clamp_in (by have := opOk_iff.1 (opOk_getD hB.op (i := i) (by omega)); omega) _
  have hmv : ∀ j, j < l.length → (l.getD j tr0).mass.lo ≤ (trL N o l ms).getD (N + j) 0 ∧ (trL N o l ms).getD (N + j) 0 ≤ (l.getD j tr0).mass.hi := fun j hj => by
    rw [trL_getD (by omega), trAt, if_neg (by omega), Nat.add_sub_cancel_left]
    exact clamp_in (by have := opOk_iff.1 (trE_iff.1 (hB.tr _ (List.mem_of_getElem? (getD_t hj)))).2.2.2.2.2; omega) _
  rw [holdsB_on hA (by rw [trL_len]; omega), hol]
  have e1 : openIn o (trL N o l ms) N = true := List.all_eq_true.2 fun i hi => by
    have hi' := List.mem_range.1 hi
    exact hasV_iff.2 ⟨opOk_val (opOk_getD hB.op (by omega)), hin i hi'⟩
  have e2 : movesIn N l (trL N o l ms) l.length = true := List.all_eq_true.2 fun j hj => by
    have hj' := List.mem_range.1 hj
    exact hasV_iff.2 ⟨opOk_val (trE_iff.1 (hB.tr _ (List.mem_of_getElem? (getD_t hj')))).2.2.2.2.2, hmv j hj'⟩
  have e3 : closeIn N l (stkL o l) (trL N o l ms) N = true := List.all_eq_true.2 fun i hi => by
    have hi' := List.mem_range.1 hi
    have hg : (stkL o l)[i]? = some (nodeS l i (o.getD i sp0)) := stkL_get o l (by omega)
    have hg2 : (stkL o l).getD i sp0 = nodeS l i (o.getD i sp0) := by rw [List.getD_eq_getElem?_getD, hg]; rfl
    have hn := node_in (N := N) (hin i hi') l.length (Nat.le_refl _) hmv
    rw [List.take_length] at hn
    rw [hg2]
    exact hasV_iff.2 ⟨allV_mem hv (List.mem_of_getElem? hg), hn⟩
  rw [e1, e2, e3]
  rfl

/-! ### The walk -/
theorem oneI (m : List Int) : ∀ u ∈ rowOf encI m, u.oneCell' = true := by
  intro u hu
  simp only [rowOf, List.mem_flatMap] at hu
  obtain ⟨e, _, he⟩ := hu
  simp [encI] at he
  rcases he with rfl
  rfl
theorem encI_len (e : Int) : (encI e).length = 1 := rfl
def TuRel (w1 : World) (L : List Int) (v i : Value) (wr : World) : Prop := ∃ k : Nat, k ≤ L.length ∧ i = .int .i64 k ∧ Below w1.heap.size w1 wr ∧ wr.ownsRow w1.heap.size 3 1 v k (rowOf encI (L.take k))
set_option maxRecDepth 100000 in
set_option maxHeartbeats 8000000 in
theorem law_truth {w : World} {vo vl vc vm : Value} (n : Int) {o : List Sp} {l : List Tr} {c : List Sp} {ms : List Int} (ho : RowIn w vo 2 encP o) (hl : RowIn w vl 4 encR l) (hc : RowIn w vc 2 encP c) (hm : RowIn w vm 1 encI ms) :
    Calls Try.prog 8 #[.agg #[.int .i64 n, vo, vl, vc], vm] w fun e w' => e = .returned (.bool true) ∧ Below w.heap.size w w' := by
  have hb : Below w.heap.size w (w.alloc (.cells #[.int .i64 n, vo, vl, vc] 25)) := by repeat (first | (with_reducible exact Below.refl _ _) | (with_reducible assumption) | (with_reducible refine Below.drew ?_) | ((with_reducible refine Below.alloc ?_ ?_ _); rotate_left; (first | (with_reducible exact Nat.zero_le _) | (with_reducible exact Nat.le_refl _) | omega | (dsimp only; omega) | (simp only [World.size_alloc, World.size_setCell, World.size_drew]; omega))) | ((with_reducible refine Below.setCell ?_ ?_ _); rotate_left; (first | (with_reducible exact Nat.zero_le _) | (with_reducible exact Nat.le_refl _) | omega | (dsimp only; omega) | (simp only [World.size_alloc, World.size_setCell, World.size_drew]; omega))))
  have BX := Blk.new w 25 #[.int .i64 n, vo, vl, vc]
  have hst := fun w' (h : Below w.heap.size w w') => stock_any (w := w') n (ho.step h) (hl.step h)
  have hck := fun w' (h : Below w.heap.size w w') => rcheckB_any (w := w') n (ho.step h) (hl.step h)
  obtain ⟨la, cb, rfl, l1, l2, _, hl5⟩ := id hl.at_
  obtain ⟨oa, ca, rfl, o1, o2, _, ho5⟩ := id ho.at_
  obtain ⟨ma, cm, rfl, m1, m2, _, hm5⟩ := id hm.at_
  unfold maxLen at l2 o2 m2
  have HL := Lib.hid hl5
  have HO := Lib.hid ho5
  have HM := Lib.hid hm5
  clear hl5 ho5 hm5
  by_cases h0 : stkE n o l = 0
  · have h00 : bchk n o l = 0 := by
      by_cases hA : bchk n o l = 0
      · exact hA
      · rw [(stkE_chk hA).1] at h0; exact absurd h0 hA
    have hv : allV (stkL o l) = true := by
      cases hv : allV (stkL o l) with
      | true => rfl
      | false => rw [(stkE_bad h00 hv).1] at h0; cases h0
    have hB := bchk_ok h00
    have hn1 := hB.n1
    have hn8 := hB.n8
    have hfew := hB.few
    have hlen := hB.len
    have hV := (stkE_ok h00 hv).2
    rw [h0, hV] at hst
    rw [h00] at hck
    by_cases hml : (ms.length : Int) = n + l.length
    · obtain ⟨N, rfl⟩ : ∃ N : Nat, n = N := ⟨n.toNat, by omega⟩
      have hml' : ms.length = N + l.length := by omega
      have hol : o.length = N := by omega
      have hth := truth_holds (ms := ms) h00 hv
      have HHO := Lib.hid fun w' vs vt (h : Below w.heap.size w w') (hs : RowIn w' vs 2 encP (stkL o l)) (ht : RowIn w' vt 1 encI (trL N o l ms)) => holds_any (w := w') (N : Int) (ho.step h) (hl.step h) hs ht
      have HHR := Lib.hid fun w' vs vt (h : Below w.heap.size w w') (hs : RowIn w' vs 2 encP (stkL o l)) (ht : RowIn w' vt 1 encI (trL N o l ms)) => rholds_any (w := w') (N : Int) (ho.step h) (hl.step h) hs ht
      rw [hth] at HHO HHR
      have HTL := Lib.hid (trL_len N o l ms)
      have HTG := Lib.hid fun i h => trL_get (N := N) (o := o) (l := l) (ms := ms) (i := i) h
      have HAT : ∀ i, trAt N o l ms i = if i < N then clampS (o.getD i sp0) (ms.getD i 0) else clampS (l.getD (i - N) tr0).mass (ms.getD i 0) := fun i => rfl
      have HATh := Lib.hid HAT
      obtain ⟨ti, hi, hz, hsi, hby⟩ := info_of (P := Try.prog) (t := 3) (z := .int .i64 0) (size := 1) (bytes := 8) (by kernel_rfl)
      have HOL := Lib.hid hol
      have HML := Lib.hid hml'
      rw [hol, hml']
      rw [hol] at hb BX
      simp only [hol] at hst hck HHO HHR
      clear hth HAT hol hml hml' hV hv h00 hB hlen ho hl hc hm o1 o2 m1 m2 l1 l2 h0
      have hn8' : N ≤ 8 := by omega
      generalize trL N o l ms = TL at *
      generalize stkL o l = SL at *
      go_enter Try.func8, Try.ntmps8
      have x0 : World.cell? (w.alloc (.cells #[.int .i64 (N : Int), .slice oa N ca, .slice la l.length cb, vc] 25)) ⟨w.heap.size, 0, none⟩ = some (.int .i64 (N : Int)) := BX.cell 0
      have x1 : World.cell? (w.alloc (.cells #[.int .i64 (N : Int), .slice oa N ca, .slice la l.length cb, vc] 25)) ⟨w.heap.size, 1, none⟩ = some (.slice oa N ca) := BX.cell 1
      have x2 : World.cell? (w.alloc (.cells #[.int .i64 (N : Int), .slice oa N ca, .slice la l.length cb, vc] 25)) ⟨w.heap.size, 2, none⟩ = some (.slice la l.length cb) := BX.cell 2
      have lx := BX.lt
      go_wp2_with fail
      clear x0 x1 x2 lx
      refine (hst _ hb).mono ?_
      rintro e w1 ⟨v1, rfl, hr, hb1⟩
      replace BX := BX.step hb1
      replace hb := hb.trans (hb1.mono hb.size)
      have x0 : World.cell? w1 ⟨w.heap.size, 0, none⟩ = some (.int .i64 (N : Int)) := BX.cell 0
      have x1 : World.cell? w1 ⟨w.heap.size, 1, none⟩ = some (.slice oa N ca) := BX.cell 1
      have x2 : World.cell? w1 ⟨w.heap.size, 2, none⟩ = some (.slice la l.length cb) := BX.cell 2
      have lx := BX.lt
      go_wp2_with fail
      clear x0 x1 x2 lx
      refine (hck _ hb).mono ?_
      rintro e w2 ⟨rfl, hb2⟩
      replace hr := hr.step hb2
      replace BX := BX.step hb2
      replace hb := hb.trans (hb2.mono hb.size)
      have x0 : World.cell? w2 ⟨w.heap.size, 0, none⟩ = some (.int .i64 (N : Int)) := BX.cell 0
      have x1 : World.cell? w2 ⟨w.heap.size, 1, none⟩ = some (.slice oa N ca) := BX.cell 1
      have x2 : World.cell? w2 ⟨w.heap.size, 2, none⟩ = some (.slice la l.length cb) := BX.cell 2
      have lx := BX.lt
      go_wp2_with fail
      clear x0 x1 x2 lx
      have hnl0 : (0 : Int) ≤ (N : Int) + l.length := by omega
      go_loopw [7, 46] (fun v i wr => TuRel w2 TL v i wr) (fun _ i _ => (N + l.length - intOf i).toNat)
      case atStart => exact ⟨0, Nat.zero_le _, rfl, Below.refl _ _, ⟨by simp [rowOf], .inl ⟨rfl, rfl⟩⟩⟩
      case round =>
        obtain ⟨k, hk, rfl, hbr, own⟩ := hrel
        rw [HTL.out] at hk
        have hsz := hbr.size
        have hw0 := hb.trans (hbr.mono hb.size)
        by_cases hlt : k < N + l.length
        · have htg := HTG.out k hlt
          have hto := take_snoc htg
          have HTO := Lib.hid hto
          have hat := HATh.out k
          have hmx : ms[k]? = some (ms.getD k 0) := getD_i (by rw [HML.out]; exact hlt)
          obtain ⟨mb, mo, hmo, hmz0, hmc⟩ := HM.out (by rintro rfl; simp at hmx)
          subst hmo
          have em0 : World.cell? w ⟨mb, mo + k, none⟩ = some (.int .i64 (ms.getD k 0)) := by have := hmc k _ hmx 0 (by omega); rw [Nat.mul_one, Nat.add_zero] at this; exact this
          have hmz : mb < w2.heap.size := Nat.lt_of_lt_of_le hmz0 hb.size
          have em := (hb.cell (p := ⟨mb, mo + k, none⟩) hmz0).trans em0
          have hr0 : ∀ jj, Value.ownBlock u7 = some jj → w2.heap.size ≤ jj := fun jj hj => by
            rcases ownsRow_open own with ⟨rfl, _⟩ | ⟨gg, cc, uu, rfl, hgg, _⟩
            · cases hj
            · have hj' := Option.some.inj hj; dsimp only at hj'; omega
          have hkl : (k : Int) < ((N + l.length : Nat) : Int) := by omega
          have hk0 : (0 : Int) ≤ k := by omega
          generalize ms.getD k 0 = m at *
          clear htg hto hmc hmx em0
          have BXr := BX.step hbr
          by_cases hkn : k < N
          · have hx : o[k]? = some (o.getD k sp0) := getD_s (by rw [HOL.out]; exact hkn)
            obtain ⟨ob, oo, hoo, hoz, hoc⟩ := HO.out (by rintro rfl; simp at hx)
            subst hoo
            rw [if_pos hkn] at hat
            have hknI : (k : Int) < N := by omega
            have e0 : World.cell? wr ⟨ob, oo + k * 2, none⟩ = some (.int .i64 (o.getD k sp0).lo) := (hw0.cell (p := ⟨ob, oo + k * 2, none⟩) hoz).trans (hoc k _ hx 0 (by omega))
            have e1 : World.cell? wr ⟨ob, oo + k * 2 + 1, none⟩ = some (.int .i64 (o.getD k sp0).hi) := (hw0.cell (p := ⟨ob, oo + k * 2 + 1, none⟩) hoz).trans (hoc k _ hx 1 (by omega))
            have hoz2 := Nat.lt_of_lt_of_le hoz hw0.size
            generalize o.getD k sp0 = b at *
            have HV := Lib.hid (hat.trans (clamp_if b m))
            clear hat hoc hx
            have x0 : World.cell? wr ⟨w.heap.size, 0, none⟩ = some (.int .i64 (N : Int)) := BXr.cell 0
            have x1 : World.cell? wr ⟨w.heap.size, 1, none⟩ = some (.slice (some ⟨ob, oo, none⟩) N ca) := BXr.cell 1
            have x2 : World.cell? wr ⟨w.heap.size, 2, none⟩ = some (.slice la l.length cb) := BXr.cell 2
            have lx := BXr.lt
            skip
            have hwz2 : Below wr.heap.size wr (wr.alloc (.cells #[.int .i64 b.lo, .int .i64 b.hi] 41)) := Below.alloc (Below.refl _ _) (Nat.le_refl _) _
            have BS := Blk.new wr 41 #[.int .i64 b.lo, .int .i64 b.hi]
            have hbs := hbr.alloc hsz (.cells #[.int .i64 b.lo, .int .i64 b.hi] 41)
            have em2 := (hbs.cell (p := ⟨mb, mo + k, none⟩) hmz).trans em
            have hmz2 : mb < (wr.alloc (.cells #[.int .i64 b.lo, .int .i64 b.hi] 41)).heap.size := Nat.lt_of_lt_of_le hmz hbs.size
            go_wp2_with fail
            clear x0 x1 x2 lx
            generalize hw3 : wr.alloc (.cells #[.int .i64 b.lo, .int .i64 b.hi] 41) = w3 at *
            have k0 : w3.cell? ⟨wr.heap.size, 0, none⟩ = some (.int .i64 b.lo) := BS.cell 0
            have k1 : w3.cell? ⟨wr.heap.size, 1, none⟩ = some (.int .i64 b.hi) := BS.cell 1
            have lS := BS.lt
            have BN := Blk.new w3.drew 3 #[.int .i64 (if b.lo < (if m < b.hi then m else b.hi) then (if m < b.hi then m else b.hi) else b.lo)]
            have hbz := hbs.drew.alloc (B := w2.heap.size) hbs.size (.cells #[.int .i64 (if b.lo < (if m < b.hi then m else b.hi) then (if m < b.hi then m else b.hi) else b.lo)] 3)
            have hbv := hwz2.drew.alloc (B := wr.heap.size) hwz2.size (.cells #[.int .i64 (if b.lo < (if m < b.hi then m else b.hi) then (if m < b.hi then m else b.hi) else b.lo)] 3)
            have ownx := ownsRow_step own hbv
            have hA1 : k + 1 ≤ maxLen := by simp only [maxLen]; omega
            have hA2 : (k + 1) * 8 ≤ 140737488355328 := by omega
            have hA3 : w2.heap.size ≤ ((w3.drew).alloc (.cells #[.int .i64 (if b.lo < (if m < b.hi then m else b.hi) then (if m < b.hi then m else b.hi) else b.lo)] 3)).heap.size := hbz.size
            go_region_law ((refine step_append_any _ (by rfl) _ _ _ (by rfl) w2.heap.size 3 ti _ 1 8 Try.underlying29 hi hz hsi hby (by rfl) (by omega) _ k _ (by rfl) ownx _ 1 (encI (if b.lo < (if m < b.hi then m else b.hi) then (if m < b.hi then m else b.hi) else b.lo)) (by rfl) (Src.of_blk BN 1) (by rfl) (fun u hu => oneI [(if b.lo < (if m < b.hi then m else b.hi) then (if m < b.hi then m else b.hi) else b.lo)] u (by simpa [rowOf] using hu)) hA1 hA2 hA3 ?_; intro v5 w5 own5 hg5 hat5))
            all_goals (
              have hb5 : Below w2.heap.size w2 w5 := Below.grown hbz hg5 hA3 hr0
              have own7 : w5.ownsRow w2.heap.size 3 1 v5 (k + 1) (rowOf encI (TL.take (k + 1))) := by
                rw [HTO.out, rowOf_append, HV.out]
                simpa [rowOf] using own5
              clear own5 own ownx hg5 hbz hbv BN BS k0 k1 em em2 lS hw3
              go_wp2_with fail
              go_roundw
              case rel => exact ⟨k + 1, by rw [HTL.out]; exact hlt, by simp, hb5, own7⟩
              case measure => simp [intOf]; omega)
          · obtain ⟨j, rfl⟩ : ∃ j, k = N + j := ⟨k - N, by omega⟩
            have hjl : j < l.length := by omega
            have hx : l[j]? = some (l.getD j tr0) := getD_t hjl
            obtain ⟨lb, lo, hlo, hlz, hlc⟩ := HL.out (by rintro rfl; simp at hx)
            subst hlo
            rw [if_neg hkn, Nat.add_sub_cancel_left] at hat
            have hknI : ¬ ((N + j : Nat) : Int) < N := by omega
            have hjI : (j : Int) < l.length := by omega
            have hj0 : (0 : Int) ≤ j := by omega
            have e2 : World.cell? wr ⟨lb, lo + j * 4 + 2, none⟩ = some (.int .i64 (l.getD j tr0).mass.lo) := (hw0.cell (p := ⟨lb, lo + j * 4 + 2, none⟩) hlz).trans (hlc j _ hx 2 (by omega))
            have e3 : World.cell? wr ⟨lb, lo + j * 4 + 2 + 1, none⟩ = some (.int .i64 (l.getD j tr0).mass.hi) := (hw0.cell (p := ⟨lb, lo + j * 4 + 3, none⟩) hlz).trans (hlc j _ hx 3 (by omega))
            have hlz2 := Nat.lt_of_lt_of_le hlz hw0.size
            generalize (l.getD j tr0).mass = b at *
            have HV := Lib.hid (hat.trans (clamp_if b m))
            clear hat hlc hx
            have x0 : World.cell? wr ⟨w.heap.size, 0, none⟩ = some (.int .i64 (N : Int)) := BXr.cell 0
            have x1 : World.cell? wr ⟨w.heap.size, 1, none⟩ = some (.slice oa N ca) := BXr.cell 1
            have x2 : World.cell? wr ⟨w.heap.size, 2, none⟩ = some (.slice (some ⟨lb, lo, none⟩) l.length cb) := BXr.cell 2
            have lx := BXr.lt
            have hjj : (N : Int) + j - N = j := by omega
            have hk1' : (0 : Int) ≤ (N : Int) + j := by omega
            have hk2' : (N : Int) + j < (N : Int) + l.length := by omega
            have hk3' : (N : Int) + j < ((N + l.length : Nat) : Int) := by omega
            have htn : ((N : Int) + j).toNat = N + j := by omega
            skip
            have hwz2 : Below wr.heap.size wr (wr.alloc (.cells #[.int .i64 b.lo, .int .i64 b.hi] 41)) := Below.alloc (Below.refl _ _) (Nat.le_refl _) _
            have BS := Blk.new wr 41 #[.int .i64 b.lo, .int .i64 b.hi]
            have hbs := hbr.alloc hsz (.cells #[.int .i64 b.lo, .int .i64 b.hi] 41)
            have em2 := (hbs.cell (p := ⟨mb, mo + (N + j), none⟩) hmz).trans em
            have hmz2 : mb < (wr.alloc (.cells #[.int .i64 b.lo, .int .i64 b.hi] 41)).heap.size := Nat.lt_of_lt_of_le hmz hbs.size
            go_wp2_with fail
            clear x0 x1 x2 lx
            generalize hw3 : wr.alloc (.cells #[.int .i64 b.lo, .int .i64 b.hi] 41) = w3 at *
            have k0 : w3.cell? ⟨wr.heap.size, 0, none⟩ = some (.int .i64 b.lo) := BS.cell 0
            have k1 : w3.cell? ⟨wr.heap.size, 1, none⟩ = some (.int .i64 b.hi) := BS.cell 1
            have lS := BS.lt
            have BN := Blk.new w3.drew 3 #[.int .i64 (if b.lo < (if m < b.hi then m else b.hi) then (if m < b.hi then m else b.hi) else b.lo)]
            have hbz := hbs.drew.alloc (B := w2.heap.size) hbs.size (.cells #[.int .i64 (if b.lo < (if m < b.hi then m else b.hi) then (if m < b.hi then m else b.hi) else b.lo)] 3)
            have hbv := hwz2.drew.alloc (B := wr.heap.size) hwz2.size (.cells #[.int .i64 (if b.lo < (if m < b.hi then m else b.hi) then (if m < b.hi then m else b.hi) else b.lo)] 3)
            have ownx := ownsRow_step own hbv
            have hA1 : (N + j) + 1 ≤ maxLen := by simp only [maxLen]; omega
            have hA2 : ((N + j) + 1) * 8 ≤ 140737488355328 := by omega
            have hA3 : w2.heap.size ≤ ((w3.drew).alloc (.cells #[.int .i64 (if b.lo < (if m < b.hi then m else b.hi) then (if m < b.hi then m else b.hi) else b.lo)] 3)).heap.size := hbz.size
            go_region_law ((refine step_append_any _ (by rfl) _ _ _ (by rfl) w2.heap.size 3 ti _ 1 8 Try.underlying29 hi hz hsi hby (by rfl) (by omega) _ (N + j) _ (by rfl) ownx _ 1 (encI (if b.lo < (if m < b.hi then m else b.hi) then (if m < b.hi then m else b.hi) else b.lo)) (by rfl) (Src.of_blk BN 1) (by rfl) (fun u hu => oneI [(if b.lo < (if m < b.hi then m else b.hi) then (if m < b.hi then m else b.hi) else b.lo)] u (by simpa [rowOf] using hu)) hA1 hA2 hA3 ?_; intro v5 w5 own5 hg5 hat5))
            all_goals (
              have hb5 : Below w2.heap.size w2 w5 := Below.grown hbz hg5 hA3 hr0
              have own7 : w5.ownsRow w2.heap.size 3 1 v5 ((N + j) + 1) (rowOf encI (TL.take ((N + j) + 1))) := by
                rw [HTO.out, rowOf_append, HV.out]
                simpa [rowOf] using own5
              clear own5 own ownx hg5 hbz hbv BN BS k0 k1 em em2 lS hw3
              go_wp2_with fail
              go_roundw
              case rel => exact ⟨(N + j) + 1, by rw [HTL.out]; exact hlt, by simp, hb5, own7⟩
              case measure => simp [intOf]; omega)
        · obtain rfl : k = N + l.length := by omega
          have hLl := HTL.out
          rw [← hLl, List.take_length] at own
          have R0 := RowIn.of_own encI_len own
          rw [hLl] at own
          clear own hLl
          replace hr := hr.step hbr
          replace BX := BX.step hbr
          have x0 : World.cell? wr ⟨w.heap.size, 0, none⟩ = some (.int .i64 (N : Int)) := BX.cell 0
          have x1 : World.cell? wr ⟨w.heap.size, 1, none⟩ = some (.slice oa N ca) := BX.cell 1
          have x2 : World.cell? wr ⟨w.heap.size, 2, none⟩ = some (.slice la l.length cb) := BX.cell 2
          have lx := BX.lt
          go_wp2_with fail
          clear x0 x1 x2 lx
          refine (HHO.out _ _ _ hw0 hr R0).mono ?_
          rintro e w3 ⟨rfl, hb3⟩
          replace hr := hr.step hb3
          replace R0 := R0.step hb3
          replace BX := BX.step hb3
          have hw3 := hw0.trans (hb3.mono hw0.size)
          have x0 : World.cell? w3 ⟨w.heap.size, 0, none⟩ = some (.int .i64 (N : Int)) := BX.cell 0
          have x1 : World.cell? w3 ⟨w.heap.size, 1, none⟩ = some (.slice oa N ca) := BX.cell 1
          have x2 : World.cell? w3 ⟨w.heap.size, 2, none⟩ = some (.slice la l.length cb) := BX.cell 2
          have lx := BX.lt
          go_wp2_with fail
          clear x0 x1 x2 lx
          refine (HHR.out _ _ _ hw3 hr R0).mono ?_
          rintro e w4 ⟨rfl, hb4⟩
          have hw4 := hw3.trans (hb4.mono hw3.size)
          go_wp2_with fail
          refine (example_any _).mono ?_
          rintro e w9 ⟨rfl, hb9⟩
          go_wp2_with fail
          go_ret
          exact ⟨rfl, hw4.trans (hb9.mono hw4.size)⟩
    · clear hl ho hm hc HL HO HM h00 hv hV hB hlen
      have hml' : ((ms.length : Int) != n + l.length) = true := bne_iff_ne.2 hml
      clear hml o1 o2 m1 m2 l1 l2
      go_enter Try.func8, Try.ntmps8
      have x0 : World.cell? (w.alloc (.cells #[.int .i64 n, .slice oa o.length ca, .slice la l.length cb, vc] 25)) ⟨w.heap.size, 0, none⟩ = some (.int .i64 n) := BX.cell 0
      have x1 : World.cell? (w.alloc (.cells #[.int .i64 n, .slice oa o.length ca, .slice la l.length cb, vc] 25)) ⟨w.heap.size, 1, none⟩ = some (.slice oa o.length ca) := BX.cell 1
      have x2 : World.cell? (w.alloc (.cells #[.int .i64 n, .slice oa o.length ca, .slice la l.length cb, vc] 25)) ⟨w.heap.size, 2, none⟩ = some (.slice la l.length cb) := BX.cell 2
      have lx := BX.lt
      go_wp2_with fail
      clear x0 x1 x2 lx
      refine (hst _ hb).mono ?_
      rintro e w1 ⟨v1, rfl, hr, hb1⟩
      replace BX := BX.step hb1
      replace hb := hb.trans (hb1.mono hb.size)
      have x0 : World.cell? w1 ⟨w.heap.size, 0, none⟩ = some (.int .i64 n) := BX.cell 0
      have x1 : World.cell? w1 ⟨w.heap.size, 1, none⟩ = some (.slice oa o.length ca) := BX.cell 1
      have x2 : World.cell? w1 ⟨w.heap.size, 2, none⟩ = some (.slice la l.length cb) := BX.cell 2
      have lx := BX.lt
      go_wp2_with fail
      clear x0 x1 x2 lx
      refine (hck _ hb).mono ?_
      rintro e w2 ⟨rfl, hb2⟩
      replace BX := BX.step hb2
      replace hb := hb.trans (hb2.mono hb.size)
      have x0 : World.cell? w2 ⟨w.heap.size, 0, none⟩ = some (.int .i64 n) := BX.cell 0
      have x1 : World.cell? w2 ⟨w.heap.size, 1, none⟩ = some (.slice oa o.length ca) := BX.cell 1
      have x2 : World.cell? w2 ⟨w.heap.size, 2, none⟩ = some (.slice la l.length cb) := BX.cell 2
      have lx := BX.lt
      go_wp2_with fail
      refine (example_any _).mono ?_
      rintro e w9 ⟨rfl, hb9⟩
      go_wp2_with fail
      go_ret
      exact ⟨rfl, hb.trans (hb9.mono hb.size)⟩
  · have h0' : (stkE n o l != 0) = true := by simpa using h0
    clear h0 hl ho hm hc HL HO HM
    generalize stkE n o l = E at *
    generalize stkV n o l = V at *
    go_enter Try.func8, Try.ntmps8
    have x0 : World.cell? (w.alloc (.cells #[.int .i64 n, .slice oa o.length ca, .slice la l.length cb, vc] 25)) ⟨w.heap.size, 0, none⟩ = some (.int .i64 n) := BX.cell 0
    have x1 : World.cell? (w.alloc (.cells #[.int .i64 n, .slice oa o.length ca, .slice la l.length cb, vc] 25)) ⟨w.heap.size, 1, none⟩ = some (.slice oa o.length ca) := BX.cell 1
    have x2 : World.cell? (w.alloc (.cells #[.int .i64 n, .slice oa o.length ca, .slice la l.length cb, vc] 25)) ⟨w.heap.size, 2, none⟩ = some (.slice la l.length cb) := BX.cell 2
    have lx := BX.lt
    go_wp2_with fail
    clear x0 x1 x2 lx
    refine (hst _ hb).mono ?_
    rintro e w1 ⟨v1, rfl, hr, hb1⟩
    replace BX := BX.step hb1
    replace hb := hb.trans (hb1.mono hb.size)
    have x0 : World.cell? w1 ⟨w.heap.size, 0, none⟩ = some (.int .i64 n) := BX.cell 0
    have x1 : World.cell? w1 ⟨w.heap.size, 1, none⟩ = some (.slice oa o.length ca) := BX.cell 1
    have x2 : World.cell? w1 ⟨w.heap.size, 2, none⟩ = some (.slice la l.length cb) := BX.cell 2
    have lx := BX.lt
    go_wp2_with fail
    refine (example_any _).mono ?_
    rintro e w9 ⟨rfl, hb9⟩
    go_wp2_with fail
    go_ret
    exact ⟨rfl, hb.trans (hb9.mono hb.size)⟩

end Go.Proofs.Ythaoclocachbaaa
