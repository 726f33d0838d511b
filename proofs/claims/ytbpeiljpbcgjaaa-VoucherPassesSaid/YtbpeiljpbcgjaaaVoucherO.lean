/- The laws VoucherNews and VoucherOnce. -/
import Derived.Test.YtbpeiljpbcgjaaaVoucherN
import Derived.Test.YtbpeiljpbcgjaaaArgs
namespace Go.Proofs.Ytbpeiljpbcgjaaa
set_option linter.unusedVariables false
set_option linter.unusedSimpArgs false
open Go.RowKit

def decS (x : List Int) : Stp := ⟨x.getD 0 0, x.getD 1 0, x.getD 2 0, x.getD 3 0⟩
theorem decS_enc (x : List Int) (h : x.length = 4) : encS (decS x) = x.map (Value.int .i64) := by
  obtain ⟨a, b, c, d, rfl⟩ := len4 h; rfl

/-- The book after steps. -/
def stBs (B : Bk) (l : List Stp) : Bk := l.foldl stB B
theorem stBs_ok {B : Bk} (h : BkOk B) (l : List Stp) : BkOk (stBs B l) := by
  unfold stBs
  induction l generalizing B with
  | nil => exact h
  | cons s l ih => exact ih (stB_ok h s)
theorem stBs_take (B : Bk) {l : List Stp} {k : Nat} {s : Stp} (h : l[k]? = some s) : stBs B (l.take (k + 1)) = stB (stBs B (l.take k)) s := by
  unfold stBs
  rw [List.take_add_one, h]
  simp
theorem new_bk_ok {v : Int} (h1 : 1 ≤ v) (h2 : v ≤ 31622400) : BkOk ⟨v, 0, []⟩ := ⟨h1, h2, by simp, by simp, by simp, by simp⟩

theorem tot_step (B : Bk) (s : Stp) : totV (stB B s) = totV B + (if s.kind = 0 ∧ stE B s = 0 then (stV B s).amt else 0) ∧ paidV (stB B s) = paidV B + (if s.kind = 1 ∧ stE B s = 0 then stN B s else 0) := by
  unfold stB stE stV stN
  by_cases h0 : s.kind = 0
  · have h1 : ¬ s.kind = 1 := by omega
    have := tot_issue B s.a s.b s.at_
    simp only [h0, if_true, true_and, this]
    simp
  by_cases h1 : s.kind = 1
  · have := tot_redeem B s.a s.at_
    simp only [h1, if_true, true_and]
    simpa using this
  · simp [h0, h1]

theorem span_any' (n : Int) (h0 : 0 ≤ n) (h1 : n < 4294967296) (w : World) : Calls Try.prog 14 #[.int .u32 n] w fun e w' => e = .returned (.int .i64 (spanV n)) ∧ w = w' := (span_any n h0 h1 w).mono fun _ _ ⟨h, k⟩ => ⟨h, k.symm⟩
theorem rnew_no' (v : Int) (hv : v < 1 ∨ v > 31622400) (w : World) : Calls Try.prog 12 #[.int .i64 v] w fun e w' => e = .returned (.tuple #[.agg #[.int .i64 0, .int .i64 0, .slice none 0 0, .slice none 0 0], .int .i64 1]) ∧ Below w.heap.size w w' := by
  rcases hv with h1 | h1
  · go_enter Try.func12, Try.ntmps12
    go_wp2_with fail
    refine bodyPost_ret (v := .tuple #[.agg #[.int .i64 0, .int .i64 0, .slice none 0 0, .slice none 0 0], .int .i64 1]) (by simp only [results, Try.results12]; go_simp) rfl ⟨rfl, ?_⟩
    repeat (first | (with_reducible exact Below.refl _ _) | (with_reducible assumption) | (with_reducible refine Below.drew ?_) | ((with_reducible refine Below.alloc ?_ ?_ _); rotate_left; (first | (with_reducible exact Nat.zero_le _) | (with_reducible exact Nat.le_refl _) | omega | (dsimp only; omega) | (simp only [World.size_alloc, World.size_setCell, World.size_drew]; omega))) | ((with_reducible refine Below.setCell ?_ ?_ _); rotate_left; (first | (with_reducible exact Nat.zero_le _) | (with_reducible exact Nat.le_refl _) | omega | (dsimp only; omega) | (simp only [World.size_alloc, World.size_setCell, World.size_drew]; omega))))
  · have h2 : ¬ v < 1 := by omega
    go_enter Try.func12, Try.ntmps12
    go_wp2_with fail
    refine bodyPost_ret (v := .tuple #[.agg #[.int .i64 0, .int .i64 0, .slice none 0 0, .slice none 0 0], .int .i64 1]) (by simp only [results, Try.results12]; go_simp) rfl ⟨rfl, ?_⟩
    repeat (first | (with_reducible exact Below.refl _ _) | (with_reducible assumption) | (with_reducible refine Below.drew ?_) | ((with_reducible refine Below.alloc ?_ ?_ _); rotate_left; (first | (with_reducible exact Nat.zero_le _) | (with_reducible exact Nat.le_refl _) | omega | (dsimp only; omega) | (simp only [World.size_alloc, World.size_setCell, World.size_drew]; omega))) | ((with_reducible refine Below.setCell ?_ ?_ _); rotate_left; (first | (with_reducible exact Nat.zero_le _) | (with_reducible exact Nat.le_refl _) | omega | (dsimp only; omega) | (simp only [World.size_alloc, World.size_setCell, World.size_drew]; omega))))

theorem law_news (v : Int) (w : World) : Calls Try.prog 3 #[.int .i64 v] w fun e w' => e = .returned (.bool true) ∧ Below w.heap.size w w' := by
  by_cases h : v < 1 ∨ v > 31622400
  · go_enter Try.func3, Try.ntmps3
    go_wp2_with fail
    refine (new_no v h _).mono ?_
    rintro e w' ⟨rfl, rfl⟩
    go_wp2_with fail
    refine (rnew_no' v h _).mono ?_
    rintro e w1 ⟨rfl, hb1⟩
    have hz1 := hb1.size
    go_wp2_with fail
    refine (awake_any _).mono ?_
    rintro e w2 ⟨rfl, hb2⟩
    go_wp2_with fail
    go_ret
    refine ⟨rfl, ?_⟩
    exact (hb1.alloc hz1 _).trans (hb2.mono (by simp only [World.size_alloc]; omega))
  · have h1 : 1 ≤ v := by omega
    have h2 : v ≤ 31622400 := by omega
    go_enter Try.func3, Try.ntmps3
    go_wp2_with fail
    refine (new_ok v h1 h2 _).mono ?_
    rintro e w1 ⟨rfl, H1, hb1⟩
    have hz1 := hb1.size
    go_wp2_with fail
    refine (rnew_ok v h1 h2 _).mono ?_
    rintro e w2 ⟨⟨x, vs, rs, rfl, R2⟩, hb2⟩
    obtain ⟨oa, cap, rfl⟩ := ownsRow_shape R2.vown
    obtain ⟨ob, cap', rfl⟩ := ownsRow_shape R2.rown
    have heq := R2.eq
    subst heq
    clear R2
    have hz2 := hb2.size
    go_wp2_with fail
    refine (awake_any _).mono ?_
    rintro e w3 ⟨rfl, hb3⟩
    go_wp2_with fail
    go_ret
    refine ⟨rfl, ?_⟩
    exact ((hb1.trans (hb2.mono hz1)).alloc (by omega) _).trans (hb3.mono (by simp only [World.size_alloc]; omega))

def OnceRel (w : World) (B : Bk) (l : List Stp) (p m i : Value) (wr : World) : Prop :=
  ∃ k : Nat, k ≤ l.length ∧ i = .int .i64 k ∧ p = .int .i64 (paidV (stBs B (l.take k))) ∧ m = .int .i64 (totV (stBs B (l.take k))) ∧ FrT w.heap.size TB w wr ∧ ∃ sv, Holds wr w.heap.size w.heap.size sv (stBs B (l.take k))


set_option maxHeartbeats 2000000 in
theorem law_once (n at_ : Int) (hn0 : 0 ≤ n) (hn1 : n < 4294967296) (v : Value) (l : List Stp) (w : World) (hl : RowIn w v 4 encS l) :
    Calls Try.prog 5 #[.int .u32 n, v, .int .i64 at_] w fun e w' => e = .returned (.bool true) ∧ Below w.heap.size w w' := by
  obtain ⟨hs1, hs2⟩ := spanV_bd hn0
  obtain ⟨oa, cap, rfl, hlc1, hlc2, _, hlc⟩ := hl.at_
  unfold maxLen at hlc2
  by_cases h100 : l.length > 100
  · have h100' : (l.length : Int) > 100 := by omega
    go_enter Try.func5, Try.ntmps5
    go_wp2_with (go_at_call 13; refine (awake_any _).mono ?_; rintro e w1 ⟨rfl, hb1⟩)
    go_ret
    exact ⟨rfl, hb1⟩
  · have h100' : ¬ (l.length : Int) > 100 := by omega
    have HL := Lib.hid hlc
    clear hlc
    go_enter Try.func5, Try.ntmps5
    go_wp2_with (first | (go_at_call 14; refine (span_any' _ hn0 hn1 _).mono ?_; rintro e w' ⟨rfl, rfl⟩) | (go_at_call 11; refine (new_ok (spanV n) hs1 hs2 _).mono ?_; rintro e w1 ⟨rfl, H1, hb1⟩))
    generalize spanV n = S at *
    have ok0 := new_bk_ok hs1 hs2
    obtain ⟨B0, hB0⟩ : ∃ B0 : Bk, B0 = ⟨S, 0, []⟩ := ⟨_, rfl⟩
    rw [← hB0] at H1 ok0
    replace hB0 := Lib.hid hB0
    go_loopw [9, 10, 11] (fun p m i wr => OnceRel w B0 l p m i wr) (fun _ _ i _ => (l.length - intOf i).toNat)
    case atStart => exact ⟨0, Nat.zero_le _, rfl, by simp [stBs, paidV, sumIf, hB0.out], by simp [stBs, totV, sumIf, hB0.out], .of_below hb1, _, H1⟩
    case round =>
      obtain ⟨k, hk, rfl, rfl, rfl, hF, sv, hH⟩ := hrel
      have okk := stBs_ok ok0 (l.take k)
      have hFb := hF.below (Nat.le_refl _)
      have hwz := hFb.size
      by_cases hlt : k < l.length
      · obtain ⟨s, hx⟩ : ∃ x, l[k]? = some x := ⟨_, List.getElem?_eq_getElem hlt⟩
        obtain ⟨lb, lo, ho, hll, hlc⟩ := HL.out (by rintro rfl; simp at hlt)
        rw [ho]
        have hst := stBs_take B0 hx
        obtain ⟨ht1, ht2⟩ := tot_step (stBs B0 (l.take k)) s
        rw [← hst] at ht1 ht2
        have b1 := sumIf_bd (fun _ => true) _ okk.amt
        have b2 := sumIf_bd (fun e => e.red) _ okk.amt
        have b3 := okk.len
        have bT : 0 ≤ totV (stBs B0 (l.take k)) ∧ totV (stBs B0 (l.take k)) ≤ 512000000 := by unfold totV; omega
        have bP : 0 ≤ paidV (stBs B0 (l.take k)) ∧ paidV (stBs B0 (l.take k)) ≤ 512000000 := by unfold paidV; omega
        clear b1 b2 b3
        have hkl : (k : Int) < l.length := by omega
        generalize stBs B0 (l.take k) = B at *
        have q : ∀ j, wr.cell? ⟨lb, j, none⟩ = w.cell? ⟨lb, j, none⟩ := fun j => hFb.cell (p := ⟨lb, j, none⟩) hll
        have hlw : lb < wr.heap.size := by omega
        have e0 : World.cell? w ⟨lb, lo + k * 4, none⟩ = some (.int .i64 (s).kind) := hlc k s hx 0 (by omega); have e1 : World.cell? w ⟨lb, lo + k * 4 + 1, none⟩ = some (.int .i64 (s).a) := hlc k s hx 1 (by omega); have e2 : World.cell? w ⟨lb, lo + k * 4 + 2, none⟩ = some (.int .i64 (s).b) := hlc k s hx 2 (by omega); have e3 : World.cell? w ⟨lb, lo + k * 4 + 3, none⟩ = some (.int .i64 (s).at_) := hlc k s hx 3 (by omega)
        rw [← q] at e0 e1 e2 e3
        clear q
        go_wp2_with fail
        refine (step_any hH okk hwz s).mono ?_
        unfold stOut
        rintro e w1 ⟨rfl, sv', H2, hf2⟩
        have hfb2 := hf2.below hwz
        have hz2 := hf2.size
        have q1 : ∀ j, w1.cell? ⟨lb, j, none⟩ = wr.cell? ⟨lb, j, none⟩ := fun j => hfb2.cell (p := ⟨lb, j, none⟩) hll
        rw [← q1] at e0 e1 e2 e3
        clear q1
        have hF3 := (hF.trans hf2)
        have hlw1 : lb < w1.heap.size := by omega
        have hxa : 0 ≤ totV (stB B s) ∧ totV (stB B s) ≤ 1000000 * 512 ∧ 0 ≤ paidV (stB B s) ∧ paidV (stB B s) ≤ 1000000 * 512 := by
          have o := stB_ok okk s
          have c1 := sumIf_bd (fun _ => true) _ o.amt
          have c2 := sumIf_bd (fun e => e.red) _ o.amt
          have c3 := o.len
          unfold totV paidV
          omega
        generalize stV B s = x at *
        generalize stN B s = nn at *
        generalize stE B s = er at *
        generalize stB B s = B' at *
        unfold encV
        generalize paidV B = P at *
        generalize totV B = T at *
        rw [← hst] at H2
        rw [← hst, ht1, ht2] at hxa
        clear hst H1 hH okk ok0 hF hl hlc ho hf2 hfb2 hFb
        by_cases her : er = 0
        · subst her
          by_cases h0 : s.kind = 0
          · have h0' : (s.kind == 0) = true := by simpa using h0
            have h1' : (s.kind == 1) = false := by simp [h0]
            rw [if_pos ⟨h0, rfl⟩] at ht1 hxa
            rw [if_neg (by omega)] at ht2 hxa
            clear h0
            have HT1 := Lib.hid ht1
            have HT2 := Lib.hid ht2
            clear ht1 ht2
            go_wp2_with fail
            go_roundw
            case rel => exact ⟨k + 1, hlt, by simp, by rw [HT2.out] <;> simp, by rw [HT1.out] <;> simp, hF3.alloc _, _, H2.step ((Below.refl _ _).alloc (Nat.le_refl _) _)⟩
            case measure => simp [intOf]; omega
          · have h0' : (s.kind == 0) = false := by simpa using h0
            rw [if_neg (by omega)] at ht1 hxa
            by_cases h1 : s.kind = 1
            · have h1' : (s.kind == 1) = true := by simpa using h1
              rw [if_pos ⟨h1, rfl⟩] at ht2 hxa
              clear h0 h1
              have HT1 := Lib.hid ht1
              have HT2 := Lib.hid ht2
              clear ht1 ht2
              go_wp2_with fail
              go_roundw
              case rel => exact ⟨k + 1, hlt, by simp, by rw [HT2.out] <;> simp, by rw [HT1.out] <;> simp, hF3.alloc _, _, H2.step ((Below.refl _ _).alloc (Nat.le_refl _) _)⟩
              case measure => simp [intOf]; omega
            · have h1' : (s.kind == 1) = false := by simpa using h1
              rw [if_neg (by omega)] at ht2 hxa
              clear h0 h1
              have HT1 := Lib.hid ht1
              have HT2 := Lib.hid ht2
              clear ht1 ht2
              go_wp2_with fail
              go_roundw
              case rel => exact ⟨k + 1, hlt, by simp, by rw [HT2.out] <;> simp, by rw [HT1.out] <;> simp, hF3.alloc _, _, H2.step ((Below.refl _ _).alloc (Nat.le_refl _) _)⟩
              case measure => simp [intOf]; omega
        · have her' : (er == 0) = false := by simpa using her
          rw [if_neg (by omega)] at ht1 ht2 hxa
          rw [if_neg (by omega)] at hxa
          clear her
          have HT1 := Lib.hid ht1
          have HT2 := Lib.hid ht2
          clear ht1 ht2
          go_wp2_with fail
          go_roundw
          case rel => exact ⟨k + 1, hlt, by simp, by rw [HT2.out] <;> simp, by rw [HT1.out] <;> simp, hF3.alloc _, _, H2.step ((Below.refl _ _).alloc (Nat.le_refl _) _)⟩
          case measure => simp [intOf]; omega
      · obtain rfl : k = l.length := by omega
        rw [List.take_length] at *
        have hon := fun h => once (stBs B0 l) at_ h
        have hop : momE (stBs B0 l) at_ ≠ 0 → openV (stBs B0 l) at_ = 0 ∧ lapV (stBs B0 l) at_ = 0 := fun h => by unfold openV lapV; simp [h]
        have bT : 0 ≤ totV (stBs B0 l) ∧ totV (stBs B0 l) ≤ 512000000 := by
          have b1 := sumIf_bd (fun _ => true) _ okk.amt
          have b3 := okk.len
          unfold totV; omega
        have bP : 0 ≤ paidV (stBs B0 l) ∧ paidV (stBs B0 l) ≤ 512000000 := by
          have b1 := sumIf_bd (fun e => e.red) _ okk.amt
          have b3 := okk.len
          unfold paidV; omega
        have bO : 0 ≤ openV (stBs B0 l) at_ ∧ openV (stBs B0 l) at_ ≤ 512000000 := by
          have b1 := sumIf_bd (isOpen at_) _ okk.amt
          have b3 := okk.len
          unfold openV; split <;> omega
        generalize stBs B0 l = B at *
        clear H1 ok0
        go_wp2_with fail
        refine (totals_any hH okk).mono ?_
        rintro e w1 ⟨rfl, hb1⟩
        have hH1 := hH.step hb1
        have hF1 := hF.trans (.of_below hb1)
        go_wp2_with fail
        refine (open_any hH1 okk at_).mono ?_
        rintro e w2 ⟨rfl, hb2⟩
        have hH2 := hH1.step hb2
        have hF2 := hF1.trans (.of_below hb2)
        go_wp2_with fail
        refine (lapsed_any hH2 okk at_).mono ?_
        rintro e w3 ⟨rfl, hb3⟩
        have hF3 := hF2.trans (.of_below hb3)
        generalize totV B = T at *
        generalize paidV B = P at *
        generalize openV B at_ = O at *
        generalize lapV B at_ = L at *
        by_cases hm : momE B at_ = 0
        · rw [hm]
          obtain rfl := hon hm
          clear hon hop hm
          go_wp2_with fail
          refine (awake_any _).mono ?_
          rintro e w4 ⟨rfl, hb4⟩
          go_wp2_with fail
          go_ret
          exact ⟨by simp, (hF3.trans (.of_below hb4)).below (Nat.le_refl _)⟩
        · obtain ⟨rfl, rfl⟩ := hop hm
          have hm' : (momE B at_ != 0) = true := by simpa using hm
          clear hon hop hm
          generalize momE B at_ = M at *
          go_wp2_with fail
          refine (awake_any _).mono ?_
          rintro e w4 ⟨rfl, hb4⟩
          go_wp2_with fail
          go_ret
          exact ⟨by simp, (hF3.trans (.of_below hb4)).below (Nat.le_refl _)⟩

end Go.Proofs.Ytbpeiljpbcgjaaa
