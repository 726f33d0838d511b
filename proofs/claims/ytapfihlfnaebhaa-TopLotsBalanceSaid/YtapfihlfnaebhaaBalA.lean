/- Contracts: valid intervals; checks of balances. -/
import Derived.Test.YtapfihlfnaebhaaProg
import Derived.Test.YtapfihlfnaebhaaBalP
import Derived.Test.YtapfihlfnaebhaaArgs
import Derived.Test.YtapfihlfnaebhaaTy
import Derived.Test.YtapfihlfnaebhaaInts
namespace Go.Proofs.Ytapfihlfnaebhaa
set_option linter.unusedVariables false
set_option linter.unusedSimpArgs false
open Go.RowKit

def encP (s : Sp) : List Value := [.int .i64 s.lo, .int .i64 s.hi]
theorem encP_len (s : Sp) : (encP s).length = 2 := rfl
def encR (t : Tr) : List Value := [.int .i64 t.frm, .int .i64 t.to, .int .i64 t.mass.lo, .int .i64 t.mass.hi]
theorem encR_len (t : Tr) : (encR t).length = 4 := rfl

theorem valid1_any (s : Sp) (w : World) : Calls Try.prog 34 #[.agg #[.int .i64 (s).lo, .int .i64 (s).hi]] w fun e w' => e = .returned (.bool (sval s)) ∧ Below w.heap.size w w' := by
  rcases sval_cases s with ⟨h, hc⟩ | ⟨h, h1, h2, h3⟩
  · rw [h]
    clear h
    rcases hc with h1 | ⟨h1, h2⟩ | ⟨h1, h2, h3⟩
    all_goals (
      go_enter Try.func34, Try.ntmps34
      go_wp2_with fail
      go_ret
      refine ⟨by first | rfl | (simp; try omega), ?_⟩
      repeat (first | (with_reducible exact Below.refl _ _) | (with_reducible assumption) | (with_reducible refine Below.drew ?_) | ((with_reducible refine Below.alloc ?_ ?_ _); rotate_left; (first | (with_reducible exact Nat.zero_le _) | (with_reducible exact Nat.le_refl _) | omega | (dsimp only; omega) | (simp only [World.size_alloc, World.size_setCell, World.size_drew]; omega))) | ((with_reducible refine Below.setCell ?_ ?_ _); rotate_left; (first | (with_reducible exact Nat.zero_le _) | (with_reducible exact Nat.le_refl _) | omega | (dsimp only; omega) | (simp only [World.size_alloc, World.size_setCell, World.size_drew]; omega)))))
  · rw [h]
    clear h
    go_enter Try.func34, Try.ntmps34
    go_wp2_with fail
    go_ret
    refine ⟨by first | rfl | (simp; try omega), ?_⟩
    repeat (first | (with_reducible exact Below.refl _ _) | (with_reducible assumption) | (with_reducible refine Below.drew ?_) | ((with_reducible refine Below.alloc ?_ ?_ _); rotate_left; (first | (with_reducible exact Nat.zero_le _) | (with_reducible exact Nat.le_refl _) | omega | (dsimp only; omega) | (simp only [World.size_alloc, World.size_setCell, World.size_drew]; omega))) | ((with_reducible refine Below.setCell ?_ ?_ _); rotate_left; (first | (with_reducible exact Nat.zero_le _) | (with_reducible exact Nat.le_refl _) | omega | (dsimp only; omega) | (simp only [World.size_alloc, World.size_setCell, World.size_drew]; omega))))
theorem rvalid_any (s : Sp) (w : World) : Calls Try.prog 32 #[.agg #[.int .i64 (s).lo, .int .i64 (s).hi]] w fun e w' => e = .returned (.bool (sval s)) ∧ Below w.heap.size w w' := by
  rcases sval_cases s with ⟨h, hc⟩ | ⟨h, h1, h2, h3⟩
  · rw [h]
    clear h
    rcases hc with h1 | ⟨h1, h2⟩ | ⟨h1, h2, h3⟩
    all_goals (
      go_enter Try.func32, Try.ntmps32
      go_wp2_with fail
      go_ret
      refine ⟨by first | rfl | (simp; try omega), ?_⟩
      repeat (first | (with_reducible exact Below.refl _ _) | (with_reducible assumption) | (with_reducible refine Below.drew ?_) | ((with_reducible refine Below.alloc ?_ ?_ _); rotate_left; (first | (with_reducible exact Nat.zero_le _) | (with_reducible exact Nat.le_refl _) | omega | (dsimp only; omega) | (simp only [World.size_alloc, World.size_setCell, World.size_drew]; omega))) | ((with_reducible refine Below.setCell ?_ ?_ _); rotate_left; (first | (with_reducible exact Nat.zero_le _) | (with_reducible exact Nat.le_refl _) | omega | (dsimp only; omega) | (simp only [World.size_alloc, World.size_setCell, World.size_drew]; omega)))))
  · rw [h]
    clear h
    go_enter Try.func32, Try.ntmps32
    go_wp2_with fail
    go_ret
    refine ⟨by first | rfl | (simp; try omega), ?_⟩
    repeat (first | (with_reducible exact Below.refl _ _) | (with_reducible assumption) | (with_reducible refine Below.drew ?_) | ((with_reducible refine Below.alloc ?_ ?_ _); rotate_left; (first | (with_reducible exact Nat.zero_le _) | (with_reducible exact Nat.le_refl _) | omega | (dsimp only; omega) | (simp only [World.size_alloc, World.size_setCell, World.size_drew]; omega))) | ((with_reducible refine Below.setCell ?_ ?_ _); rotate_left; (first | (with_reducible exact Nat.zero_le _) | (with_reducible exact Nat.le_refl _) | omega | (dsimp only; omega) | (simp only [World.size_alloc, World.size_setCell, World.size_drew]; omega))))

def OpRel (w : World) (o : List Sp) (i : Value) (wr : World) : Prop := ∃ k : Nat, k ≤ o.length ∧ i = .int .i64 k ∧ (o.take k).all opOk = true ∧ Below w.heap.size w wr
def TrRel (w : World) (n : Int) (l : List Tr) (i : Value) (wr : World) : Prop := ∃ k : Nat, k ≤ l.length ∧ i = .int .i64 k ∧ firstE (trE n) (l.take k) = 0 ∧ Below w.heap.size w wr
theorem op_take {o : List Sp} {k : Nat} {x : Sp} (h : o[k]? = some x) : (o.take (k + 1)).all opOk = ((o.take k).all opOk && opOk x) := by
  rw [List.take_add_one, h, List.all_append]; simp
theorem op_stop {o : List Sp} {k : Nat} {x : Sp} (h : o[k]? = some x) (hx : opOk x = false) : o.all opOk = false := by
  rw [Bool.eq_false_iff]
  intro ha
  have := List.all_eq_true.1 ha x (List.mem_of_getElem? h)
  rw [hx] at this; cases this
theorem bchk_one {n : Int} {o : List Sp} {l : List Tr} (h : n < 1 ∨ n > 8 ∨ (o.length : Int) ≠ n ∨ o.all opOk = false) : bchk n o l = 1 := by
  unfold bchk
  by_cases h1 : n < 1 ∨ n > 8 ∨ (o.length : Int) ≠ n
  · rw [if_pos h1]
  · rw [if_neg h1, if_pos (by rcases h with h | h | h | h <;> first | exact h | (exfalso; omega))]
theorem bchk_full {o : List Sp} {l : List Tr} (h1 : 1 ≤ o.length) (h2 : o.length ≤ 8) (h3 : o.all opOk = true) : bchk o.length o l = if l.length > 64 then 8 else firstE (trE o.length) l := by
  unfold bchk
  rw [if_neg (by omega), if_neg (by simp [h3])]
theorem opOk_cases (s : Sp) : (opOk s = false ∧ (sval s = false ∨ (sval s = true ∧ s.lo < 0))) ∨ (opOk s = true ∧ sval s = true ∧ 0 ≤ s.lo) := by
  unfold opOk
  cases sval s
  · exact .inl ⟨rfl, .inl rfl⟩
  · by_cases h : 0 ≤ s.lo
    · exact .inr ⟨by simp [h], rfl, h⟩
    · exact .inl ⟨by simp [h], .inr ⟨rfl, by omega⟩⟩

set_option maxRecDepth 100000 in
set_option maxHeartbeats 4000000 in
theorem bcheck_any {w : World} {vo vl : Value} (n : Int) {o : List Sp} {l : List Tr} (ho : RowIn w vo 2 encP o) (hl : RowIn w vl 4 encR l) : Calls Try.prog 33 #[.int .i64 n, vo, vl] w fun e w' => e = .returned (.int .i64 (bchk n o l)) ∧ Below w.heap.size w w' := by
  obtain ⟨oa, ca, rfl, o1, o2, _, ho5⟩ := ho.at_
  obtain ⟨la, cb, rfl, l1, l2, _, hl5⟩ := hl.at_
  unfold maxLen at o2 l2
  have HO := Lib.hid ho5
  have HL := Lib.hid hl5
  clear ho5 hl5
  by_cases hc : n < 1 ∨ n > 8 ∨ (o.length : Int) ≠ n
  · rw [bchk_one (by omega)]
    have hc' : n < 1 ∨ (¬ n < 1 ∧ n > 8) ∨ (¬ n < 1 ∧ ¬ n > 8 ∧ (o.length : Int) ≠ n) := by omega
    clear hc
    rcases hc' with h1 | ⟨h1, h2⟩ | ⟨h1, h2, h3⟩
    · go_enter Try.func33, Try.ntmps33
      go_wp2_with fail
      go_ret
      exact ⟨rfl, Below.refl _ _⟩
    · go_enter Try.func33, Try.ntmps33
      go_wp2_with fail
      go_ret
      exact ⟨rfl, Below.refl _ _⟩
    · have h3' : ((o.length : Int) != n) = true := by simpa using h3
      clear h3
      go_enter Try.func33, Try.ntmps33
      go_wp2_with fail
      go_ret
      exact ⟨rfl, Below.refl _ _⟩
  obtain rfl : n = o.length := by omega
  have hn1 : 1 ≤ o.length := by omega
  have hn8 : o.length ≤ 8 := by omega
  have hn1' : ¬ (o.length : Int) < 1 := by omega
  have hn8' : ¬ (o.length : Int) > 8 := by omega
  clear hc
  go_enter Try.func33, Try.ntmps33
  go_wp2_with fail
  go_loopw [25] (fun i wr => OpRel w o i wr) (fun i _ => (o.length - intOf i).toNat)
  case atStart => exact ⟨0, Nat.zero_le _, rfl, rfl, Below.refl _ _⟩
  case round =>
    obtain ⟨k, hk, rfl, hok, hb⟩ := hrel
    have hwz := hb.size
    by_cases hlt : k < o.length
    · obtain ⟨x, hx⟩ : ∃ x, o[k]? = some x := ⟨_, List.getElem?_eq_getElem hlt⟩
      obtain ⟨ob, oo, hoo, hoz, hoc⟩ := HO.out (by rintro rfl; simp at hlt)
      rw [hoo]
      have hkl : (k : Int) < o.length := by omega
      have e0 : World.cell? wr ⟨ob, oo + k * 2, none⟩ = some (.int .i64 x.lo) := (hb.cell (p := ⟨ob, oo + k * 2, none⟩) hoz).trans (hoc k x hx 0 (by omega))
      have e1 : World.cell? wr ⟨ob, oo + k * 2 + 1, none⟩ = some (.int .i64 x.hi) := (hb.cell (p := ⟨ob, oo + k * 2 + 1, none⟩) hoz).trans (hoc k x hx 1 (by omega))
      have hv := fun w => valid1_any x w
      have hb1 : Below w.heap.size w (wr.alloc (.cells (#[.int .i64 (x).lo, .int .i64 (x).hi]) 32)) := by repeat (first | (with_reducible exact Below.refl _ _) | (with_reducible assumption) | (with_reducible refine Below.drew ?_) | ((with_reducible refine Below.alloc ?_ ?_ _); rotate_left; (first | (with_reducible exact Nat.zero_le _) | (with_reducible exact Nat.le_refl _) | omega | (dsimp only; omega) | (simp only [World.size_alloc, World.size_setCell, World.size_drew]; omega))) | ((with_reducible refine Below.setCell ?_ ?_ _); rotate_left; (first | (with_reducible exact Nat.zero_le _) | (with_reducible exact Nat.le_refl _) | omega | (dsimp only; omega) | (simp only [World.size_alloc, World.size_setCell, World.size_drew]; omega))))
      have BX := Blk.new wr 32 (#[.int .i64 (x).lo, .int .i64 (x).hi])
      have hs := op_take hx
      rw [hok, Bool.true_and] at hs
      rcases opOk_cases x with ⟨h0, hc⟩ | ⟨h0, h1, h2⟩
      · have hfin : bchk o.length o l = 1 := bchk_one (.inr (.inr (.inr (op_stop hx h0))))
        have HF := Lib.hid hfin
        clear hfin hs h0
        rcases hc with h1 | ⟨h1, h2⟩
        · rw [h1] at hv
          clear h1
          go_wp2_with fail
          refine (hv _).mono ?_
          rintro e w1 ⟨rfl, hb2⟩
          go_wp2_with fail
          go_ret
          exact ⟨by rw [HF.out]; rfl, hb1.trans (hb2.mono hb1.size)⟩
        · rw [h1] at hv
          clear h1
          go_wp2_with fail
          refine (hv _).mono ?_
          rintro e w1 ⟨rfl, hb2⟩
          have cx := (BX.step hb2).cell
          go_wp2_with fail
          go_ret
          exact ⟨by rw [HF.out]; rfl, hb1.trans (hb2.mono hb1.size)⟩
      · rw [h1] at hv
        clear h1
        have HS := Lib.hid (hs.trans h0)
        clear hs h0
        go_wp2_with fail
        refine (hv _).mono ?_
        rintro e w1 ⟨rfl, hb2⟩
        have cx := (BX.step hb2).cell
        go_wp2_with fail
        go_roundw
        case rel => exact ⟨k + 1, hlt, by simp, HS.out, hb1.trans (hb2.mono hb1.size)⟩
        case measure => simp [intOf]; omega
    · obtain rfl : k = o.length := by omega
      rw [List.take_length] at hok
      have hfull := bchk_full (l := l) hn1 hn8 hok
      clear hok
      by_cases h64 : l.length > 64
      · rw [if_pos h64] at hfull
        have HF := Lib.hid hfull
        clear hfull
        have h64' : (l.length : Int) > 64 := by omega
        go_wp2_with fail
        go_ret
        exact ⟨by rw [HF.out]; rfl, hb⟩
      rw [if_neg h64] at hfull
      have h64' : ¬ (l.length : Int) > 64 := by omega
      have HF := Lib.hid hfull
      clear hfull
      go_wp2_with fail
      go_loopw [43] (fun i wr => TrRel w o.length l i wr) (fun i _ => (l.length - intOf i).toNat)
      case atStart => exact ⟨0, Nat.zero_le _, rfl, rfl, hb⟩
      case round =>
        clear hb hwz hlt hk
        obtain ⟨k, hk, rfl, hok, hb⟩ := hrel
        have hwz := hb.size
        by_cases hlt : k < l.length
        · obtain ⟨x, hx⟩ : ∃ x, l[k]? = some x := ⟨_, List.getElem?_eq_getElem hlt⟩
          obtain ⟨lb, lo, hlo, hlz, hlc⟩ := HL.out (by rintro rfl; simp at hlt)
          rw [hlo]
          have hkl : (k : Int) < l.length := by omega
          have e0 : World.cell? wr ⟨lb, lo + k * 4, none⟩ = some (.int .i64 x.frm) := (hb.cell (p := ⟨lb, lo + k * 4, none⟩) hlz).trans (hlc k x hx 0 (by omega))
          have e1 : World.cell? wr ⟨lb, lo + k * 4 + 1, none⟩ = some (.int .i64 x.to) := (hb.cell (p := ⟨lb, lo + k * 4 + 1, none⟩) hlz).trans (hlc k x hx 1 (by omega))
          have e2 : World.cell? wr ⟨lb, lo + k * 4 + 2, none⟩ = some (.int .i64 x.mass.lo) := (hb.cell (p := ⟨lb, lo + k * 4 + 2, none⟩) hlz).trans (hlc k x hx 2 (by omega))
          have e3 : World.cell? wr ⟨lb, lo + k * 4 + 3, none⟩ = some (.int .i64 x.mass.hi) := (hb.cell (p := ⟨lb, lo + k * 4 + 3, none⟩) hlz).trans (hlc k x hx 3 (by omega))
          have hv := fun w => valid1_any x.mass w
          have hst := firstE_stop (trE o.length) hx hok
          have htk := firstE_take (trE o.length) hx hok
          have HT := Lib.hid hst
          have HK := Lib.hid htk
          clear hst htk hok
          have hE : trE o.length x = if x.frm < 0 ∨ x.frm ≥ o.length ∨ x.to < 0 ∨ x.to ≥ o.length then 7 else if x.frm = x.to ∨ opOk x.mass = false then 1 else 0 := rfl
          by_cases hr : x.frm < 0 ∨ x.frm ≥ o.length ∨ x.to < 0 ∨ x.to ≥ o.length
          · rw [if_pos hr] at hE
            have HE := Lib.hid (HT.out (by rw [hE]; decide))
            have HE2 := Lib.hid hE
            clear hE hv
            have hr' : x.frm < 0 ∨ (¬ x.frm < 0 ∧ x.frm ≥ o.length) ∨ (¬ x.frm < 0 ∧ ¬ x.frm ≥ o.length ∧ x.to < 0) ∨ (¬ x.frm < 0 ∧ ¬ x.frm ≥ o.length ∧ ¬ x.to < 0 ∧ x.to ≥ o.length) := by omega
            clear hr
            rcases hr' with h1 | ⟨h1, h2⟩ | ⟨h1, h2, h3⟩ | ⟨h1, h2, h3, h4⟩
            all_goals (
              go_wp2_with fail
              go_ret
              refine ⟨by rw [HF.out, HE.out, HE2.out]; rfl, ?_⟩
              repeat (first | (with_reducible exact Below.refl _ _) | (with_reducible assumption) | (with_reducible refine Below.drew ?_) | ((with_reducible refine Below.alloc ?_ ?_ _); rotate_left; (first | (with_reducible exact Nat.zero_le _) | (with_reducible exact Nat.le_refl _) | omega | (dsimp only; omega) | (simp only [World.size_alloc, World.size_setCell, World.size_drew]; omega))) | ((with_reducible refine Below.setCell ?_ ?_ _); rotate_left; (first | (with_reducible exact Nat.zero_le _) | (with_reducible exact Nat.le_refl _) | omega | (dsimp only; omega) | (simp only [World.size_alloc, World.size_setCell, World.size_drew]; omega)))))
          rw [if_neg hr] at hE
          have h1 : ¬ x.frm < 0 := by omega
          have h2 : ¬ x.frm ≥ o.length := by omega
          have h3 : ¬ x.to < 0 := by omega
          have h4 : ¬ x.to ≥ o.length := by omega
          clear hr
          by_cases hq : x.frm = x.to
          · rw [if_pos (.inl hq)] at hE
            have HE := Lib.hid (HT.out (by rw [hE]; decide))
            have HE2 := Lib.hid hE
            clear hE hv
            have hq' : (x.frm == x.to) = true := by simpa using hq
            clear hq
            go_wp2_with fail
            go_ret
            refine ⟨by rw [HF.out, HE.out, HE2.out]; rfl, ?_⟩
            repeat (first | (with_reducible exact Below.refl _ _) | (with_reducible assumption) | (with_reducible refine Below.drew ?_) | ((with_reducible refine Below.alloc ?_ ?_ _); rotate_left; (first | (with_reducible exact Nat.zero_le _) | (with_reducible exact Nat.le_refl _) | omega | (dsimp only; omega) | (simp only [World.size_alloc, World.size_setCell, World.size_drew]; omega))) | ((with_reducible refine Below.setCell ?_ ?_ _); rotate_left; (first | (with_reducible exact Nat.zero_le _) | (with_reducible exact Nat.le_refl _) | omega | (dsimp only; omega) | (simp only [World.size_alloc, World.size_setCell, World.size_drew]; omega))))
          have hq' : (x.frm == x.to) = false := by simpa using hq
          rcases opOk_cases x.mass with ⟨h0, hc⟩ | ⟨h0, h5, h6⟩
          · rw [if_pos (.inr h0)] at hE
            have HE := Lib.hid (HT.out (by rw [hE]; decide))
            have HE2 := Lib.hid hE
            clear hE hq h0
            have hb1 : Below w.heap.size w (wr.alloc (.cells (#[.int .i64 (x).frm, .int .i64 (x).to, .int .i64 (x).mass.lo, .int .i64 (x).mass.hi]) 39)) := hb.alloc hwz _
            have BX := Blk.new wr 39 (#[.int .i64 (x).frm, .int .i64 (x).to, .int .i64 (x).mass.lo, .int .i64 (x).mass.hi])
            rcases hc with h5 | ⟨h5, h6⟩
            · rw [h5] at hv
              clear h5
              go_wp2_with fail
              refine (hv _).mono ?_
              rintro e w1 ⟨rfl, hb2⟩
              go_wp2_with fail
              go_ret
              exact ⟨by rw [HF.out, HE.out, HE2.out]; rfl, hb1.trans (hb2.mono hb1.size)⟩
            · rw [h5] at hv
              clear h5
              go_wp2_with fail
              refine (hv _).mono ?_
              rintro e w1 ⟨rfl, hb2⟩
              replace BX := BX.step hb2
              have cx := BX.cell
              go_wp2_with fail
              go_ret
              exact ⟨by rw [HF.out, HE.out, HE2.out]; rfl, hb1.trans (hb2.mono hb1.size)⟩
          · rw [if_neg (by rintro (h | h); exact hq h; rw [h0] at h; cases h)] at hE
            have HE := Lib.hid (HK.out.trans hE)
            clear hE hq h0
            rw [h5] at hv
            clear h5
            have hb1 : Below w.heap.size w (wr.alloc (.cells (#[.int .i64 (x).frm, .int .i64 (x).to, .int .i64 (x).mass.lo, .int .i64 (x).mass.hi]) 39)) := hb.alloc hwz _
            have BX := Blk.new wr 39 (#[.int .i64 (x).frm, .int .i64 (x).to, .int .i64 (x).mass.lo, .int .i64 (x).mass.hi])
            go_wp2_with fail
            refine (hv _).mono ?_
            rintro e w1 ⟨rfl, hb2⟩
            replace BX := BX.step hb2
            have cx := BX.cell
            go_wp2_with fail
            go_roundw
            case rel => exact ⟨k + 1, hlt, by simp, HE.out, hb1.trans (hb2.mono hb1.size)⟩
            case measure => simp [intOf]; omega
        · obtain rfl : k = l.length := by omega
          rw [List.take_length] at hok
          have HO2 := Lib.hid hok
          clear hok
          go_wp2_with fail
          go_ret
          exact ⟨by rw [HF.out, HO2.out]; rfl, hb⟩
set_option maxRecDepth 100000 in
set_option maxHeartbeats 4000000 in
theorem rcheckB_any {w : World} {vo vl : Value} (n : Int) {o : List Sp} {l : List Tr} (ho : RowIn w vo 2 encP o) (hl : RowIn w vl 4 encR l) : Calls Try.prog 10 #[.int .i64 n, vo, vl] w fun e w' => e = .returned (.int .i64 (bchk n o l)) ∧ Below w.heap.size w w' := by
  obtain ⟨oa, ca, rfl, o1, o2, _, ho5⟩ := ho.at_
  obtain ⟨la, cb, rfl, l1, l2, _, hl5⟩ := hl.at_
  unfold maxLen at o2 l2
  have HO := Lib.hid ho5
  have HL := Lib.hid hl5
  clear ho5 hl5
  by_cases hc : n < 1 ∨ n > 8 ∨ (o.length : Int) ≠ n
  · rw [bchk_one (by omega)]
    have hc' : n < 1 ∨ (¬ n < 1 ∧ n > 8) ∨ (¬ n < 1 ∧ ¬ n > 8 ∧ (o.length : Int) ≠ n) := by omega
    clear hc
    rcases hc' with h1 | ⟨h1, h2⟩ | ⟨h1, h2, h3⟩
    · go_enter Try.func10, Try.ntmps10
      go_wp2_with fail
      go_ret
      exact ⟨rfl, Below.refl _ _⟩
    · go_enter Try.func10, Try.ntmps10
      go_wp2_with fail
      go_ret
      exact ⟨rfl, Below.refl _ _⟩
    · have h3' : ((o.length : Int) != n) = true := by simpa using h3
      clear h3
      go_enter Try.func10, Try.ntmps10
      go_wp2_with fail
      go_ret
      exact ⟨rfl, Below.refl _ _⟩
  obtain rfl : n = o.length := by omega
  have hn1 : 1 ≤ o.length := by omega
  have hn8 : o.length ≤ 8 := by omega
  have hn1' : ¬ (o.length : Int) < 1 := by omega
  have hn8' : ¬ (o.length : Int) > 8 := by omega
  clear hc
  go_enter Try.func10, Try.ntmps10
  go_wp2_with fail
  go_loopw [7] (fun i wr => OpRel w o i wr) (fun i _ => (o.length - intOf i).toNat)
  case atStart => exact ⟨0, Nat.zero_le _, rfl, rfl, Below.refl _ _⟩
  case round =>
    obtain ⟨k, hk, rfl, hok, hb⟩ := hrel
    have hwz := hb.size
    by_cases hlt : k < o.length
    · obtain ⟨x, hx⟩ : ∃ x, o[k]? = some x := ⟨_, List.getElem?_eq_getElem hlt⟩
      obtain ⟨ob, oo, hoo, hoz, hoc⟩ := HO.out (by rintro rfl; simp at hlt)
      rw [hoo]
      have hkl : (k : Int) < o.length := by omega
      have e0 : World.cell? wr ⟨ob, oo + k * 2, none⟩ = some (.int .i64 x.lo) := (hb.cell (p := ⟨ob, oo + k * 2, none⟩) hoz).trans (hoc k x hx 0 (by omega))
      have e1 : World.cell? wr ⟨ob, oo + k * 2 + 1, none⟩ = some (.int .i64 x.hi) := (hb.cell (p := ⟨ob, oo + k * 2 + 1, none⟩) hoz).trans (hoc k x hx 1 (by omega))
      have hv := fun w => rvalid_any x w
      have hb1 : Below w.heap.size w (wr) := by repeat (first | (with_reducible exact Below.refl _ _) | (with_reducible assumption) | (with_reducible refine Below.drew ?_) | ((with_reducible refine Below.alloc ?_ ?_ _); rotate_left; (first | (with_reducible exact Nat.zero_le _) | (with_reducible exact Nat.le_refl _) | omega | (dsimp only; omega) | (simp only [World.size_alloc, World.size_setCell, World.size_drew]; omega))) | ((with_reducible refine Below.setCell ?_ ?_ _); rotate_left; (first | (with_reducible exact Nat.zero_le _) | (with_reducible exact Nat.le_refl _) | omega | (dsimp only; omega) | (simp only [World.size_alloc, World.size_setCell, World.size_drew]; omega))))
      have BX := Blk.new wr 32 (#[.int .i64 (x).lo, .int .i64 (x).hi])
      have hs := op_take hx
      rw [hok, Bool.true_and] at hs
      rcases opOk_cases x with ⟨h0, hc⟩ | ⟨h0, h1, h2⟩
      · have hfin : bchk o.length o l = 1 := bchk_one (.inr (.inr (.inr (op_stop hx h0))))
        have HF := Lib.hid hfin
        clear hfin hs h0
        rcases hc with h1 | ⟨h1, h2⟩
        · rw [h1] at hv
          clear h1
          go_wp2_with fail
          refine (hv _).mono ?_
          rintro e w1 ⟨rfl, hb2⟩
          go_wp2_with fail
          go_ret
          exact ⟨by rw [HF.out]; rfl, hb1.trans (hb2.mono hb1.size)⟩
        · rw [h1] at hv
          clear h1
          go_wp2_with fail
          refine (hv _).mono ?_
          rintro e w1 ⟨rfl, hb2⟩
          have e0' := (hb2.cell (p := ⟨ob, oo + k * 2, none⟩) (by dsimp only; omega)).trans e0
          go_wp2_with fail
          go_ret
          exact ⟨by rw [HF.out]; rfl, hb1.trans (hb2.mono hb1.size)⟩
      · rw [h1] at hv
        clear h1
        have HS := Lib.hid (hs.trans h0)
        clear hs h0
        go_wp2_with fail
        refine (hv _).mono ?_
        rintro e w1 ⟨rfl, hb2⟩
        have e0' := (hb2.cell (p := ⟨ob, oo + k * 2, none⟩) (by dsimp only; omega)).trans e0
        go_wp2_with fail
        go_roundw
        case rel => exact ⟨k + 1, hlt, by simp, HS.out, hb1.trans (hb2.mono hb1.size)⟩
        case measure => simp [intOf]; omega
    · obtain rfl : k = o.length := by omega
      rw [List.take_length] at hok
      have hfull := bchk_full (l := l) hn1 hn8 hok
      clear hok
      by_cases h64 : l.length > 64
      · rw [if_pos h64] at hfull
        have HF := Lib.hid hfull
        clear hfull
        have h64' : (l.length : Int) > 64 := by omega
        go_wp2_with fail
        go_ret
        exact ⟨by rw [HF.out]; rfl, hb⟩
      rw [if_neg h64] at hfull
      have h64' : ¬ (l.length : Int) > 64 := by omega
      have HF := Lib.hid hfull
      clear hfull
      go_wp2_with fail
      go_loopw [8] (fun i wr => TrRel w o.length l i wr) (fun i _ => (l.length - intOf i).toNat)
      case atStart => exact ⟨0, Nat.zero_le _, rfl, rfl, hb⟩
      case round =>
        clear hb hwz hlt hk
        obtain ⟨k, hk, rfl, hok, hb⟩ := hrel
        have hwz := hb.size
        by_cases hlt : k < l.length
        · obtain ⟨x, hx⟩ : ∃ x, l[k]? = some x := ⟨_, List.getElem?_eq_getElem hlt⟩
          obtain ⟨lb, lo, hlo, hlz, hlc⟩ := HL.out (by rintro rfl; simp at hlt)
          rw [hlo]
          have hkl : (k : Int) < l.length := by omega
          have e0 : World.cell? wr ⟨lb, lo + k * 4, none⟩ = some (.int .i64 x.frm) := (hb.cell (p := ⟨lb, lo + k * 4, none⟩) hlz).trans (hlc k x hx 0 (by omega))
          have e1 : World.cell? wr ⟨lb, lo + k * 4 + 1, none⟩ = some (.int .i64 x.to) := (hb.cell (p := ⟨lb, lo + k * 4 + 1, none⟩) hlz).trans (hlc k x hx 1 (by omega))
          have e2 : World.cell? wr ⟨lb, lo + k * 4 + 2, none⟩ = some (.int .i64 x.mass.lo) := (hb.cell (p := ⟨lb, lo + k * 4 + 2, none⟩) hlz).trans (hlc k x hx 2 (by omega))
          have e3 : World.cell? wr ⟨lb, lo + k * 4 + 3, none⟩ = some (.int .i64 x.mass.hi) := (hb.cell (p := ⟨lb, lo + k * 4 + 3, none⟩) hlz).trans (hlc k x hx 3 (by omega))
          have hv := fun w => rvalid_any x.mass w
          have hst := firstE_stop (trE o.length) hx hok
          have htk := firstE_take (trE o.length) hx hok
          have HT := Lib.hid hst
          have HK := Lib.hid htk
          clear hst htk hok
          have hE : trE o.length x = if x.frm < 0 ∨ x.frm ≥ o.length ∨ x.to < 0 ∨ x.to ≥ o.length then 7 else if x.frm = x.to ∨ opOk x.mass = false then 1 else 0 := rfl
          by_cases hr : x.frm < 0 ∨ x.frm ≥ o.length ∨ x.to < 0 ∨ x.to ≥ o.length
          · rw [if_pos hr] at hE
            have HE := Lib.hid (HT.out (by rw [hE]; decide))
            have HE2 := Lib.hid hE
            clear hE hv
            have hr' : x.frm < 0 ∨ (¬ x.frm < 0 ∧ x.frm ≥ o.length) ∨ (¬ x.frm < 0 ∧ ¬ x.frm ≥ o.length ∧ x.to < 0) ∨ (¬ x.frm < 0 ∧ ¬ x.frm ≥ o.length ∧ ¬ x.to < 0 ∧ x.to ≥ o.length) := by omega
            clear hr
            rcases hr' with h1 | ⟨h1, h2⟩ | ⟨h1, h2, h3⟩ | ⟨h1, h2, h3, h4⟩
            all_goals (
              go_wp2_with fail
              go_ret
              refine ⟨by rw [HF.out, HE.out, HE2.out]; rfl, ?_⟩
              repeat (first | (with_reducible exact Below.refl _ _) | (with_reducible assumption) | (with_reducible refine Below.drew ?_) | ((with_reducible refine Below.alloc ?_ ?_ _); rotate_left; (first | (with_reducible exact Nat.zero_le _) | (with_reducible exact Nat.le_refl _) | omega | (dsimp only; omega) | (simp only [World.size_alloc, World.size_setCell, World.size_drew]; omega))) | ((with_reducible refine Below.setCell ?_ ?_ _); rotate_left; (first | (with_reducible exact Nat.zero_le _) | (with_reducible exact Nat.le_refl _) | omega | (dsimp only; omega) | (simp only [World.size_alloc, World.size_setCell, World.size_drew]; omega)))))
          rw [if_neg hr] at hE
          have h1 : ¬ x.frm < 0 := by omega
          have h2 : ¬ x.frm ≥ o.length := by omega
          have h3 : ¬ x.to < 0 := by omega
          have h4 : ¬ x.to ≥ o.length := by omega
          clear hr
          by_cases hq : x.frm = x.to
          · rw [if_pos (.inl hq)] at hE
            have HE := Lib.hid (HT.out (by rw [hE]; decide))
            have HE2 := Lib.hid hE
            clear hE hv
            have hq' : (x.frm == x.to) = true := by simpa using hq
            clear hq
            go_wp2_with fail
            go_ret
            refine ⟨by rw [HF.out, HE.out, HE2.out]; rfl, ?_⟩
            repeat (first | (with_reducible exact Below.refl _ _) | (with_reducible assumption) | (with_reducible refine Below.drew ?_) | ((with_reducible refine Below.alloc ?_ ?_ _); rotate_left; (first | (with_reducible exact Nat.zero_le _) | (with_reducible exact Nat.le_refl _) | omega | (dsimp only; omega) | (simp only [World.size_alloc, World.size_setCell, World.size_drew]; omega))) | ((with_reducible refine Below.setCell ?_ ?_ _); rotate_left; (first | (with_reducible exact Nat.zero_le _) | (with_reducible exact Nat.le_refl _) | omega | (dsimp only; omega) | (simp only [World.size_alloc, World.size_setCell, World.size_drew]; omega))))
          have hq' : (x.frm == x.to) = false := by simpa using hq
          rcases opOk_cases x.mass with ⟨h0, hc⟩ | ⟨h0, h5, h6⟩
          · rw [if_pos (.inr h0)] at hE
            have HE := Lib.hid (HT.out (by rw [hE]; decide))
            have HE2 := Lib.hid hE
            clear hE hq h0
            have hb1 : Below w.heap.size w (wr.alloc (.cells (#[.int .i64 (x).frm, .int .i64 (x).to, .int .i64 (x).mass.lo, .int .i64 (x).mass.hi]) 39)) := hb.alloc hwz _
            have BX := Blk.new wr 39 (#[.int .i64 (x).frm, .int .i64 (x).to, .int .i64 (x).mass.lo, .int .i64 (x).mass.hi])
            rcases hc with h5 | ⟨h5, h6⟩
            · rw [h5] at hv
              clear h5
              go_wp2_with fail
              refine (hv _).mono ?_
              rintro e w1 ⟨rfl, hb2⟩
              go_wp2_with fail
              go_ret
              exact ⟨by rw [HF.out, HE.out, HE2.out]; rfl, hb1.trans (hb2.mono hb1.size)⟩
            · rw [h5] at hv
              clear h5
              go_wp2_with fail
              refine (hv _).mono ?_
              rintro e w1 ⟨rfl, hb2⟩
              replace BX := BX.step hb2
              have cx := BX.cell
              go_wp2_with fail
              go_ret
              exact ⟨by rw [HF.out, HE.out, HE2.out]; rfl, hb1.trans (hb2.mono hb1.size)⟩
          · rw [if_neg (by rintro (h | h); exact hq h; rw [h0] at h; cases h)] at hE
            have HE := Lib.hid (HK.out.trans hE)
            clear hE hq h0
            rw [h5] at hv
            clear h5
            have hb1 : Below w.heap.size w (wr.alloc (.cells (#[.int .i64 (x).frm, .int .i64 (x).to, .int .i64 (x).mass.lo, .int .i64 (x).mass.hi]) 39)) := hb.alloc hwz _
            have BX := Blk.new wr 39 (#[.int .i64 (x).frm, .int .i64 (x).to, .int .i64 (x).mass.lo, .int .i64 (x).mass.hi])
            go_wp2_with fail
            refine (hv _).mono ?_
            rintro e w1 ⟨rfl, hb2⟩
            replace BX := BX.step hb2
            have cx := BX.cell
            go_wp2_with fail
            go_roundw
            case rel => exact ⟨k + 1, hlt, by simp, HE.out, hb1.trans (hb2.mono hb1.size)⟩
            case measure => simp [intOf]; omega
        · obtain rfl : k = l.length := by omega
          rw [List.take_length] at hok
          have HO2 := Lib.hid hok
          clear hok
          go_wp2_with fail
          go_ret
          exact ⟨by rw [HF.out, HO2.out]; rfl, hb⟩

end Go.Proofs.Ytapfihlfnaebhaa
