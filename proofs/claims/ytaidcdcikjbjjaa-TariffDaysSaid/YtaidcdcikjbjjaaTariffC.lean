/- Contracts: At of the program and of the reference. -/
import Derived.Test.YtaidcdcikjbjjaaTariffB
namespace Go.Proofs.Ytaidcdcikjbjjaa
set_option linter.unusedVariables false
set_option linter.unusedSimpArgs false
open Go.RowKit

def AtRel (w : World) (l : List Tf) (d : Int) (i : Value) (wr : World) : Prop := ∃ k : Nat, k ≤ l.length ∧ i = .int .i64 (k - 1) ∧ lastTo l d l.length = lastTo l d k ∧ Below w.heap.size w wr
def RatRel (w : World) (l : List Tf) (d : Int) (a i : Value) (wr : World) : Prop := ∃ k : Nat, k ≤ l.length ∧ i = .int .i64 k ∧ (∃ z : Int, a = .int .i64 z ∧ (k = 0 ∧ z = 0 ∨ z = lastTo l d k ∧ 0 ≤ z)) ∧ Below w.heap.size w wr
theorem atE_lt {l : List Tf} {d : Int} : atE l d = 0 → atV l d = lastTo l d l.length := fun h => by unfold atV; rw [if_pos h]
theorem atE_ne {l : List Tf} {d : Int} : atE l d ≠ 0 → atV l d = 0 := fun h => by unfold atV; rw [if_neg h]


set_option maxHeartbeats 1000000 in
theorem at_any {w : World} {v : Value} {l : List Tf} (hl : RowIn w v 5 encT l) (d : Int) : Calls Try.prog 13 #[v, .int .i64 d] w fun e w' => e = .returned (.tuple #[.int .i64 (atV l d), .int .i64 (atE l d)]) ∧ Below w.heap.size w w' := by
  have hE : atE l d = if tchk l ≠ 0 then tchk l else if d < 0 ∨ d > 36524 then 1 else if lastTo l d l.length = -1 then 7 else 0 := rfl
  by_cases ht : tchk l ≠ 0
  · rw [if_pos ht] at hE
    have hV := atE_ne (l := l) (d := d) (by omega)
    rw [hV, hE]
    have hck := fun w h => check_any (w := w) (v := v) (l := l) h
    have ht' : (tchk l != 0) = true := by simpa using ht
    clear hE hV ht
    generalize tchk l = E at *
    go_enter Try.func13, Try.ntmps13
    go_wp2_with fail
    refine (hck _ hl).mono ?_
    rintro e w1 ⟨rfl, hb1⟩
    go_wp2_with fail
    go_ret2
    exact ⟨rfl, hb1⟩
  have ht0 : tchk l = 0 := by omega
  have hT := tchk_ok ht0
  rw [if_neg ht] at hE
  have hck := fun w h => check_any (w := w) (v := v) (l := l) h
  rw [ht0] at hck
  clear ht ht0
  by_cases hd : d < 0 ∨ d > 36524
  · rw [if_pos hd] at hE
    have hV := atE_ne (l := l) (d := d) (by omega)
    rw [hV, hE]
    have hw : within 0 d 36524 = false := by
      rw [Bool.eq_false_iff]
      simp only [within, ne_eq, Bool.and_eq_true, decide_eq_true_eq]
      omega
    clear hE hV
    go_enter Try.func13, Try.ntmps13
    go_wp2_with fail
    refine (hck _ hl).mono ?_
    rintro e w1 ⟨rfl, hb1⟩
    go_wp2_with (go_at_call 23; refine (between_any _ _ _ _).mono ?_; rintro e w' ⟨rfl, rfl⟩)
    go_ret2
    exact ⟨rfl, hb1⟩
  rw [if_neg hd] at hE
  have hw : within 0 d 36524 = true := by
    simp only [within, Bool.and_eq_true, decide_eq_true_eq]
    omega
  clear hd
  have hl1 := hT.pos
  have hl8 := hT.len
  obtain ⟨oa, cap, hv, hlc1, hlc2, hnn, hlc⟩ := hl.at_
  unfold maxLen at hlc2
  have HL := Lib.hid hlc
  clear hlc hnn
  rw [hv] at hl hck ⊢
  have HE := Lib.hid hE
  clear hE hv
  go_enter Try.func13, Try.ntmps13
  go_wp2_with fail
  refine (hck _ hl).mono ?_
  rintro e w1 ⟨rfl, hb1⟩
  go_wp2_with (go_at_call 23; refine (between_any _ _ _ _).mono ?_; rintro e w' ⟨rfl, rfl⟩)
  clear hw
  go_loopw [7] (fun i wr => AtRel w l d i wr) (fun i _ => (intOf i + 1).toNat)
  case atStart => exact ⟨l.length, Nat.le_refl _, rfl, rfl, hb1⟩
  case round =>
    clear hb1
    obtain ⟨k, hk, hi, hlast, hb⟩ := hrel
    have hwz := hb.size
    rcases k with _ | m
    · replace hi := hi.trans (show Value.int .i64 (((0 : Nat) : Int) - 1) = .int .i64 (-1) by rfl)
      subst hi
      have HLa := Lib.hid hlast
      clear hlast
      go_wp2_with fail
      go_ret2
      refine ⟨?_, hb⟩
      have : atE l d = 7 := by rw [HE.out, HLa.out]; simp [lastTo]
      rw [atE_ne (by omega), this]
      rfl
    · replace hi := hi.trans (show Value.int .i64 (((m + 1 : Nat) : Int) - 1) = .int .i64 m by congr 1; omega)
      subst hi
      have hm : m < l.length := by omega
      obtain ⟨x, hx⟩ : ∃ x, l[m]? = some x := ⟨_, List.getElem?_eq_getElem hm⟩
      obtain ⟨lb, lo, ho, hll, hlc⟩ := HL.out (by rintro rfl; simp at hm)
      rw [ho]
      have q : ∀ j, wr.cell? ⟨lb, j, none⟩ = w.cell? ⟨lb, j, none⟩ := fun j => hb.cell (p := ⟨lb, j, none⟩) hll
      have e0 : World.cell? w ⟨lb, lo + m * 5, none⟩ = some (.int .i64 (x).frm) := hlc (m) x hx 0 (by omega); have e1 : World.cell? w ⟨lb, lo + m * 5 + 1, none⟩ = some (.int .i64 (x).base) := hlc (m) x hx 1 (by omega); have e2 : World.cell? w ⟨lb, lo + m * 5 + 2, none⟩ = some (.int .i64 (x).empty) := hlc (m) x hx 2 (by omega); have e3 : World.cell? w ⟨lb, lo + m * 5 + 3, none⟩ = some (.int .i64 (x).kilo) := hlc (m) x hx 3 (by omega); have e4 : World.cell? w ⟨lb, lo + m * 5 + 4, none⟩ = some (.int .i64 (x).free) := hlc (m) x hx 4 (by omega)
      rw [← q] at e0 e1 e2 e3 e4
      clear q e1 e2 e3 e4
      have i0 : (0 : Int) ≤ m := by omega
      have i1 : (m : Int) < l.length := by omega
      have hs : lastTo l d (m + 1) = if x.frm ≤ d then (m : Int) else lastTo l d m := by
        show (if (l.getD m tf0).frm ≤ d then (m : Int) else lastTo l d m) = _
        rw [getD_of hx]
      rw [hs] at hlast
      have HLa := Lib.hid hlast
      clear hlast hs hk
      by_cases hxd : x.frm ≤ d
      · go_wp2_with fail
        go_ret2
        refine ⟨?_, hb⟩
        have h0 := HLa.out
        rw [if_pos hxd] at h0
        have : atE l d = 0 := by rw [HE.out, h0, if_neg (by omega)]
        rw [atE_lt this, this, h0]
        rfl
      · go_wp2_with fail
        go_roundw
        case rel => exact ⟨m, by omega, rfl, by rw [HLa.out, if_neg hxd], hb⟩
        case measure => simp [intOf] <;> omega

set_option maxHeartbeats 1000000 in
theorem rat_any {w : World} {v : Value} {l : List Tf} (hl : RowIn w v 5 encT l) (d : Int) : Calls Try.prog 14 #[v, .int .i64 d] w fun e w' => e = .returned (.tuple #[.int .i64 (atV l d), .int .i64 (atE l d)]) ∧ Below w.heap.size w w' := by
  have hE : atE l d = if tchk l ≠ 0 then tchk l else if d < 0 ∨ d > 36524 then 1 else if lastTo l d l.length = -1 then 7 else 0 := rfl
  by_cases ht : tchk l ≠ 0
  · rw [if_pos ht] at hE
    have hV := atE_ne (l := l) (d := d) (by omega)
    rw [hV, hE]
    have hck := fun w h => rcheck_any (w := w) (v := v) (l := l) h
    have ht' : (tchk l != 0) = true := by simpa using ht
    clear hE hV ht
    generalize tchk l = E at *
    go_enter Try.func14, Try.ntmps14
    go_wp2_with fail
    refine (hck _ hl).mono ?_
    rintro e w1 ⟨rfl, hb1⟩
    go_wp2_with fail
    go_ret2
    exact ⟨rfl, hb1⟩
  have ht0 : tchk l = 0 := by omega
  have hT := tchk_ok ht0
  rw [if_neg ht] at hE
  have hck := fun w h => rcheck_any (w := w) (v := v) (l := l) h
  rw [ht0] at hck
  clear ht ht0
  by_cases hd : d < 0 ∨ d > 36524
  · rw [if_pos hd] at hE
    have hV := atE_ne (l := l) (d := d) (by omega)
    rw [hV, hE]
    clear hE hV
    rcases hd with hd | hd
    · go_enter Try.func14, Try.ntmps14
      go_wp2_with fail
      refine (hck _ hl).mono ?_
      rintro e w1 ⟨rfl, hb1⟩
      go_wp2_with fail
      go_ret2
      exact ⟨rfl, hb1⟩
    · have hd' : ¬ d < 0 := by omega
      go_enter Try.func14, Try.ntmps14
      go_wp2_with fail
      refine (hck _ hl).mono ?_
      rintro e w1 ⟨rfl, hb1⟩
      go_wp2_with fail
      go_ret2
      exact ⟨rfl, hb1⟩
  rw [if_neg hd] at hE
  have hd1 : ¬ d < 0 := by omega
  have hd2 : ¬ d > 36524 := by omega
  have hni := none_iff hT d
  clear hd
  have hl1 := hT.pos
  have hl8 := hT.len
  obtain ⟨x0, hx0⟩ : ∃ x, l[0]? = some x := ⟨_, List.getElem?_eq_getElem hl1⟩
  rw [getD_of hx0] at hni
  obtain ⟨oa, cap, hv, hlc1, hlc2, hnn, hlc⟩ := hl.at_
  unfold maxLen at hlc2
  have HL := Lib.hid hlc
  clear hlc hnn
  obtain ⟨lb, lo, ho, hll, hlc⟩ := HL.out (by rintro rfl; simp at hl1)
  rw [ho] at hv
  rw [hv] at hl hck ⊢
  have hbc : ∀ W, Below w.heap.size w W → W.cell? ⟨lb, lo, none⟩ = some (.int .i64 x0.frm) := fun W h => by
    rw [h.cell (p := ⟨lb, lo, none⟩) hll]
    have := hlc 0 x0 hx0 0 (by omega)
    rw [Nat.zero_mul, Nat.add_zero] at this
    exact this
  have HE := Lib.hid hE
  have HBC := Lib.hid hbc
  have i1 : (0 : Int) < l.length := by omega
  clear hE hv hbc
  by_cases h0 : d < x0.frm
  · have h7 : atE l d = 7 := by rw [HE.out, if_pos (hni.2 h0)]
    rw [atE_ne (by omega), h7]
    clear hni
    go_enter Try.func14, Try.ntmps14
    go_wp2_with fail
    refine (hck _ hl).mono ?_
    rintro e w1 ⟨rfl, hb1⟩
    have c0 := HBC.out w1 hb1
    go_wp2_with fail
    go_ret2
    exact ⟨rfl, hb1⟩
  have h7 : atE l d = 0 := by rw [HE.out, if_neg (fun h => h0 (hni.1 h))]
  have hV := atE_lt h7
  have HV := Lib.hid hV
  have H7 := Lib.hid h7
  have HN := Lib.hid hni
  clear hni h7 hV HE
  go_enter Try.func14, Try.ntmps14
  go_wp2_with fail
  refine (hck _ hl).mono ?_
  rintro e w1 ⟨rfl, hb1⟩
  have c0 := HBC.out w1 hb1
  go_wp2_with fail
  clear c0
  go_loopw [7, 8] (fun a i wr => RatRel w l d a i wr) (fun _ i _ => (l.length - intOf i).toNat)
  case atStart => exact ⟨0, Nat.zero_le _, rfl, ⟨0, rfl, .inl ⟨rfl, rfl⟩⟩, hb1⟩
  case round =>
    clear hb1
    obtain ⟨k, hk, rfl, ⟨z, rfl, hz⟩, hb⟩ := hrel
    have hwz := hb.size
    have HZ := Lib.hid hz
    clear hz
    by_cases hlt : k < l.length
    · obtain ⟨x, hx⟩ : ∃ x, l[k]? = some x := ⟨_, List.getElem?_eq_getElem hlt⟩
      have q : ∀ j, wr.cell? ⟨lb, j, none⟩ = w.cell? ⟨lb, j, none⟩ := fun j => hb.cell (p := ⟨lb, j, none⟩) hll
      have e0 : World.cell? w ⟨lb, lo + k * 5, none⟩ = some (.int .i64 (x).frm) := hlc (k) x hx 0 (by omega); have e1 : World.cell? w ⟨lb, lo + k * 5 + 1, none⟩ = some (.int .i64 (x).base) := hlc (k) x hx 1 (by omega); have e2 : World.cell? w ⟨lb, lo + k * 5 + 2, none⟩ = some (.int .i64 (x).empty) := hlc (k) x hx 2 (by omega); have e3 : World.cell? w ⟨lb, lo + k * 5 + 3, none⟩ = some (.int .i64 (x).kilo) := hlc (k) x hx 3 (by omega); have e4 : World.cell? w ⟨lb, lo + k * 5 + 4, none⟩ = some (.int .i64 (x).free) := hlc (k) x hx 4 (by omega)
      rw [← q] at e0 e1 e2 e3 e4
      clear q e1 e2 e3 e4
      have i2 : (0 : Int) ≤ k := by omega
      have i3 : (k : Int) < l.length := by omega
      have hs : lastTo l d (k + 1) = if x.frm ≤ d then (k : Int) else lastTo l d k := by
        show (if (l.getD k tf0).frm ≤ d then (k : Int) else lastTo l d k) = _
        rw [getD_of hx]
      have HS := Lib.hid hs
      clear hs
      by_cases hxd : x.frm ≤ d
      · go_wp2_with fail
        go_roundw
        case rel => exact ⟨k + 1, hlt, by simp, ⟨_, rfl, .inr ⟨by rw [HS.out, if_pos hxd], i2⟩⟩, hb⟩
        case measure => simp [intOf]; omega
      · have hk0 : k ≠ 0 := by
          rintro rfl
          rw [hx0] at hx
          cases hx
          omega
        go_wp2_with fail
        go_roundw
        case rel => exact ⟨k + 1, hlt, by simp, ⟨z, rfl, .inr (by rw [HS.out, if_neg hxd]; rcases HZ.out with h | h; exact absurd h.1 hk0; exact h)⟩, hb⟩
        case measure => simp [intOf]; omega
    · have hkl : k = l.length := by omega
      have hge : ¬ (k : Int) < l.length := by omega
      have hzz : z = lastTo l d l.length := by
        rcases HZ.out with h | h
        · omega
        · rw [h.1, hkl]
      have HZZ := Lib.hid hzz
      clear hzz hkl
      go_wp2_with fail
      go_ret2
      refine ⟨?_, hb⟩
      rw [HV.out, H7.out, HZZ.out]
      rfl

end Go.Proofs.Ytaidcdcikjbjjaa
