/- The law VoucherSteps. -/
import Derived.Test.YtbpeiljpbcgjaaaVoucherO
import Derived.Test.YtbpeiljpbcgjaaaVoucherM
import Derived.Deep.RegionHeld3
import Derived.Deep.DeepCutAuto
namespace Go.Proofs.Ytbpeiljpbcgjaaa
set_option linter.unusedVariables false
set_option linter.unusedSimpArgs false
open Go.RowKit

def SRel (w : World) (g : Nat) (B0 : Bk) (l : List Stp) (i : Value) (wr : World) : Prop :=
  ∃ k : Nat, k ≤ l.length ∧ i = .int .i64 k ∧ FrT w.heap.size TB w wr ∧ ∃ sv vs rs, Holds wr w.heap.size w.heap.size sv (stBs B0 (l.take k)) ∧
    RHolds wr (.agg #[.int .i64 (stBs B0 (l.take k)).valid, .int .i64 (stBs B0 (l.take k)).now, vs, rs]) (stBs B0 (l.take k)) vs rs ∧ Blk wr g 29 #[.int .i64 (stBs B0 (l.take k)).valid, .int .i64 (stBs B0 (l.take k)).now, vs, rs]


set_option maxRecDepth 100000 in
set_option maxHeartbeats 4000000 in
theorem law_steps (n : Int) (hn0 : 0 ≤ n) (hn1 : n < 4294967296) (v : Value) (l : List Stp) (w : World) (hl : RowIn w v 4 encS l) :
    Calls Try.prog 4 #[.int .u32 n, v] w fun e w' => e = .returned (.bool true) ∧ Below w.heap.size w w' := by
  obtain ⟨hs1, hs2⟩ := spanV_bd hn0
  obtain ⟨oa, cap, rfl, hlc1, hlc2, _, hlc⟩ := hl.at_
  unfold maxLen at hlc2
  by_cases h100 : l.length > 100
  · have h100' : (l.length : Int) > 100 := by omega
    go_enter Try.func4, Try.ntmps4
    go_wp2_with (go_at_call 13; refine (awake_any _).mono ?_; rintro e w1 ⟨rfl, hb1⟩)
    go_ret
    exact ⟨rfl, hb1⟩
  · have h100' : ¬ (l.length : Int) > 100 := by omega
    have HL := Lib.hid hlc
    clear hlc
    go_enter Try.func4, Try.ntmps4
    go_wp2_with (first | (go_at_call 14; refine (span_any' _ hn0 hn1 _).mono ?_; rintro e w' ⟨rfl, rfl⟩) | (go_at_call 11; refine (new_ok (spanV n) hs1 hs2 _).mono ?_; rintro e w1 ⟨rfl, H1, hb1⟩))
    refine (rnew_ok (spanV n) hs1 hs2 _).mono ?_
    rintro e w2 ⟨⟨xv, vs, rs, rfl, R2⟩, hb2⟩
    obtain ⟨oa2, cap2, rfl⟩ := ownsRow_shape R2.vown
    obtain ⟨ob2, cap2', rfl⟩ := ownsRow_shape R2.rown
    have heq := R2.eq
    subst heq
    generalize spanV n = S at *
    have ok0 := new_bk_ok hs1 hs2
    go_wp2_with fail
    have BG := Blk.new w2 29 #[.int .i64 S, .int .i64 0, .slice oa2 (([] : List Ent).length) cap2, .slice ob2 (([] : List Ent).length) cap2']
    have H2 := (H1.step hb2).step (w' := w2.alloc (.cells #[.int .i64 S, .int .i64 0, .slice oa2 (([] : List Ent).length) cap2, .slice ob2 (([] : List Ent).length) cap2'] 29)) (by ((repeat (first | exact Below.refl _ _ | refine Below.drew ?_ | refine Below.alloc ?_ (by first | exact Nat.le_refl _ | omega | (simp only [World.size_alloc, World.size_drew, World.size_setCell]; omega)) _)); first | (fail_if_success (focus skip)) | fail))
    have R3 := R2.step (w' := w2.alloc (.cells #[.int .i64 S, .int .i64 0, .slice oa2 (([] : List Ent).length) cap2, .slice ob2 (([] : List Ent).length) cap2'] 29)) (by ((repeat (first | exact Below.refl _ _ | refine Below.drew ?_ | refine Below.alloc ?_ (by first | exact Nat.le_refl _ | omega | (simp only [World.size_alloc, World.size_drew, World.size_setCell]; omega)) _)); first | (fail_if_success (focus skip)) | fail))
    have hF2 : FrT w.heap.size TB w (w2.alloc (.cells #[.int .i64 S, .int .i64 0, .slice oa2 (([] : List Ent).length) cap2, .slice ob2 (([] : List Ent).length) cap2'] 29)) := .of_below (by exact (hb1.trans (hb2.mono hb1.size)).alloc (Nat.le_trans hb1.size hb2.size) _)
    have hg : w.heap.size ≤ w2.heap.size := Nat.le_trans hb1.size hb2.size
    clear H1 R2 hb1 hb2
    generalize w2.heap.size = g at *
    obtain ⟨B0, hB0⟩ : ∃ B0 : Bk, B0 = ⟨S, 0, []⟩ := ⟨_, rfl⟩
    have hstart : SRel w g B0 l (.int .i64 0) (w2.alloc (.cells #[.int .i64 S, .int .i64 0, .slice oa2 (([] : List Ent).length) cap2, .slice ob2 (([] : List Ent).length) cap2'] 29)) := by
      subst hB0
      exact ⟨0, Nat.zero_le _, rfl, hF2, _, _, _, H2, R3, BG⟩
    rw [← hB0] at ok0
    clear hB0 H2 R3 BG hF2
    go_loopw [9] (fun i wr => SRel w g B0 l i wr) (fun i _ => (l.length - intOf i).toNat)
    case atStart => exact hstart
    case round =>
      clear hstart
      obtain ⟨k, hk, rfl, hF, sv, vs, rs, hH, hR, hG⟩ := hrel
      have okk := stBs_ok ok0 (l.take k)
      have hFb := hF.below (Nat.le_refl _)
      have hwz := hFb.size
      by_cases hlt : k < l.length
      · obtain ⟨s, hx⟩ : ∃ x, l[k]? = some x := ⟨_, List.getElem?_eq_getElem hlt⟩
        obtain ⟨lb, lo, ho, hll, hlc⟩ := HL.out (by rintro rfl; simp at hlt)
        rw [ho]
        have hst := stBs_take B0 hx
        have hkl : (k : Int) < l.length := by omega
        have hi0 : (0 : Int) ≤ k := by omega
        generalize stBs B0 (l.take k) = B at *
        have q : ∀ j, wr.cell? ⟨lb, j, none⟩ = w.cell? ⟨lb, j, none⟩ := fun j => hFb.cell (p := ⟨lb, j, none⟩) hll
        have hlw : lb < wr.heap.size := by omega
        have e0 : World.cell? w ⟨lb, lo + k * 4, none⟩ = some (.int .i64 (s).kind) := hlc k s hx 0 (by omega); have e1 : World.cell? w ⟨lb, lo + k * 4 + 1, none⟩ = some (.int .i64 (s).a) := hlc k s hx 1 (by omega); have e2 : World.cell? w ⟨lb, lo + k * 4 + 2, none⟩ = some (.int .i64 (s).b) := hlc k s hx 2 (by omega); have e3 : World.cell? w ⟨lb, lo + k * 4 + 3, none⟩ = some (.int .i64 (s).at_) := hlc k s hx 3 (by omega)
        rw [← q] at e0 e1 e2 e3
        clear q
        go_wp2_with fail
        refine (step_any hH okk hwz s).mono ?_
        unfold stOut
        rintro e w1 ⟨rfl, sv', H2, hf2⟩
        have hf2b := hf2.below hwz
        have hz2 := hf2.size
        have hG1 := hG.frT hf2 (.inr rfl)
        have hR1 := hR.frT hf2 rfl rfl
        have hF1 := hF.trans hf2
        have q1 : ∀ j, w1.cell? ⟨lb, j, none⟩ = wr.cell? ⟨lb, j, none⟩ := fun j => hf2b.cell (p := ⟨lb, j, none⟩) hll
        rw [← q1] at e0 e1 e2 e3
        clear q1 hf2 hf2b hG hR hF hFb
        have ok2 := stB_ok okk s
        have hmod := fun (w : World) (v vs rs : Value) (hB : RHolds w v B vs rs) => model_any hB okk s
        unfold mdOut at hmod
        generalize stV B s = x at *
        generalize stN B s = nn at *
        generalize stE B s = er at *
        generalize stB B s = B' at *
        unfold encV at *
        have BV := Blk.new w1 38 #[.int .i64 x.num, .int .i64 x.mach, .int .i64 x.amt, .int .i64 x.at_, .int .i64 x.til]
        have hz3 : lb < w1.heap.size := by omega
        have hG2 := hG1.alloc (.cells #[.int .i64 x.num, .int .i64 x.mach, .int .i64 x.amt, .int .i64 x.at_, .int .i64 x.til] 38)
        have hR2 := hR1.step (w' := w1.alloc (.cells #[.int .i64 x.num, .int .i64 x.mach, .int .i64 x.amt, .int .i64 x.at_, .int .i64 x.til] 38)) (by ((repeat (first | exact Below.refl _ _ | refine Below.drew ?_ | refine Below.alloc ?_ (by first | exact Nat.le_refl _ | omega | (simp only [World.size_alloc, World.size_drew, World.size_setCell]; omega)) _)); first | (fail_if_success (focus skip)) | fail))
        have H3 := H2.step (w' := w1.alloc (.cells #[.int .i64 x.num, .int .i64 x.mach, .int .i64 x.amt, .int .i64 x.at_, .int .i64 x.til] 38)) (by ((repeat (first | exact Below.refl _ _ | refine Below.drew ?_ | refine Below.alloc ?_ (by first | exact Nat.le_refl _ | omega | (simp only [World.size_alloc, World.size_drew, World.size_setCell]; omega)) _)); first | (fail_if_success (focus skip)) | fail))
        have hF2 := hF1.alloc (.cells #[.int .i64 x.num, .int .i64 x.mach, .int .i64 x.amt, .int .i64 x.at_, .int .i64 x.til] 38)
        have hzw := hF2.size
        go_upto_region 11 with fail
        have hbA : Below w1.heap.size w1 (w1.alloc (.cells #[.int .i64 x.num, .int .i64 x.mach, .int .i64 x.amt, .int .i64 x.at_, .int .i64 x.til] 38)) := (Below.refl _ _).alloc (Nat.le_refl _) _
        have q2 : ∀ j, (w1.alloc (.cells #[.int .i64 x.num, .int .i64 x.mach, .int .i64 x.amt, .int .i64 x.at_, .int .i64 x.til] 38)).cell? ⟨lb, j, none⟩ = w1.cell? ⟨lb, j, none⟩ := fun j => hbA.cell (p := ⟨lb, j, none⟩) hz3
        rw [← q2] at e0 e1 e2 e3
        have hz4 := hG2.lt
        have hz5 : lb < (w1.alloc (.cells #[.int .i64 x.num, .int .i64 x.mach, .int .i64 x.amt, .int .i64 x.at_, .int .i64 x.til] 38)).heap.size := by simp; omega
        clear q2 hbA hG1 hR1 H2 hF1 hH okk
        generalize w1.heap.size = p10 at *
        generalize (w1.alloc (.cells #[.int .i64 x.num, .int .i64 x.mach, .int .i64 x.amt, .int .i64 x.at_, .int .i64 x.til] 38)) = wb at *
        have g0 : wb.cell? ⟨g, 0, none⟩ = some (.int .i64 B.valid) := hG2.cell 0
        have g1 : wb.cell? ⟨g, 1, none⟩ = some (.int .i64 B.now) := hG2.cell 1
        have g2 : wb.cell? ⟨g, 2, none⟩ = some vs := hG2.cell 2
        have g3 : wb.cell? ⟨g, 3, none⟩ = some rs := hG2.cell 3
        go_cut [13, 14, 15, 16] (fun s13 s14 s15 s16 wx => ∃ p13 p14 oa1 cap1 ob1 cap1', s13 = .pointer (some ⟨p13, 0, none⟩) ∧ s14 = .pointer (some ⟨p14, 0, none⟩) ∧ s15 = .int .i64 nn ∧ s16 = .int .i64 er ∧
          (wx.cell? ⟨p13, 0, none⟩ = some (.int .i64 B'.valid) ∧ wx.cell? ⟨p13, 1, none⟩ = some (.int .i64 B'.now) ∧ wx.cell? ⟨p13, 2, none⟩ = some (.slice oa1 B'.es.length cap1) ∧ wx.cell? ⟨p13, 3, none⟩ = some (.slice ob1 B'.es.length cap1')) ∧
          (wx.cell? ⟨p14, 0, none⟩ = some (.int .i64 x.num) ∧ wx.cell? ⟨p14, 1, none⟩ = some (.int .i64 x.mach) ∧ wx.cell? ⟨p14, 2, none⟩ = some (.int .i64 x.amt) ∧ wx.cell? ⟨p14, 3, none⟩ = some (.int .i64 x.at_) ∧ wx.cell? ⟨p14, 4, none⟩ = some (.int .i64 x.til)) ∧
          RHolds wx (.agg #[.int .i64 B'.valid, .int .i64 B'.now, .slice oa1 B'.es.length cap1, .slice ob1 B'.es.length cap1']) B' (.slice oa1 B'.es.length cap1) (.slice ob1 B'.es.length cap1') ∧ Below wb.heap.size wb wx)
        case first =>
          have HM := Lib.hid hmod
          clear hmod
          have a1 : ¬ g = wb.heap.size := by omega
          have a2 : ¬ wb.heap.size = g := by omega
          have a3 : ¬ g = wb.heap.size + 1 := by omega
          have a4 : ¬ wb.heap.size + 1 = g := by omega
          have a5 : ¬ lb = wb.heap.size := by omega
          have a6 : ¬ wb.heap.size = lb := by omega
          have a7 : ¬ lb = wb.heap.size + 1 := by omega
          have a8 : ¬ wb.heap.size + 1 = lb := by omega
          go_region_held3 (fun w' => w'.cell? ⟨g, 0, none⟩ = some (.int .i64 B.valid) ∧ w'.cell? ⟨g, 1, none⟩ = some (.int .i64 B.now) ∧ w'.cell? ⟨g, 2, none⟩ = some vs ∧ w'.cell? ⟨g, 3, none⟩ = some rs ∧
            w'.cell? ⟨lb, lo + k * 4, none⟩ = some (.int .i64 s.kind) ∧ w'.cell? ⟨lb, lo + k * 4 + 1, none⟩ = some (.int .i64 s.a) ∧ w'.cell? ⟨lb, lo + k * 4 + 2, none⟩ = some (.int .i64 s.b) ∧ w'.cell? ⟨lb, lo + k * 4 + 3, none⟩ = some (.int .i64 s.at_)) (go_keep)
            (first | (go_at_call 16; refine (HM.out (wb.drew) _ _ _ (hR2.step (Below.refl _ _).drew)).mono ?_; rintro e wm ⟨v1, vs1, rs1, rfl, hRm, hbm, hfr1, hfr2⟩; obtain ⟨oa1, cap1, rfl⟩ := ownsRow_shape hRm.vown; obtain ⟨ob1, cap1', rfl⟩ := ownsRow_shape hRm.rown; have heq := hRm.eq; subst heq; have hfv := fresh_far (own_lt hR2.vown) hfr1; have hfr := fresh_far (own_lt hR2.rown) hfr2; have hbx : Below wb.heap.size wb (wb.drew) := (Below.refl _ _).drew; have hbw : Below wb.heap.size wb wm := hbx.trans (hbm.mono hbx.size); have hwm : g < wm.heap.size := Nat.lt_of_lt_of_le hz4 hbw.size; have hwl : lb < wm.heap.size := Nat.lt_of_lt_of_le hz5 hbw.size; have k0 := hbw.cell (p := ⟨g, 0, none⟩) hz4; have k1 := hbw.cell (p := ⟨g, 1, none⟩) hz4; have k2 := hbw.cell (p := ⟨g, 2, none⟩) hz4; have k3 := hbw.cell (p := ⟨g, 3, none⟩) hz4; have m0 := hbw.cell (p := ⟨lb, lo + k * 4, none⟩) hz5; have m1 := hbw.cell (p := ⟨lb, lo + k * 4 + 1, none⟩) hz5; have m2 := hbw.cell (p := ⟨lb, lo + k * 4 + 2, none⟩) hz5; have m3 := hbw.cell (p := ⟨lb, lo + k * 4 + 3, none⟩) hz5; simp only [World.size_alloc, World.size_drew] at hfv hfr; skip; clear hfr1 hfr2) | (go_at_call 16; refine (HM.out ((wb.alloc (.cells #[.int .i64 0, .int .i64 0, .slice none 0 0, .slice none 0 0] 29)).drew) _ _ _ (hR2.step ((Below.refl _ _).alloc (Nat.le_refl _) _).drew)).mono ?_; rintro e wm ⟨v1, vs1, rs1, rfl, hRm, hbm, hfr1, hfr2⟩; obtain ⟨oa1, cap1, rfl⟩ := ownsRow_shape hRm.vown; obtain ⟨ob1, cap1', rfl⟩ := ownsRow_shape hRm.rown; have heq := hRm.eq; subst heq; have hfv := fresh_far (own_lt hR2.vown) hfr1; have hfr := fresh_far (own_lt hR2.rown) hfr2; have hbx : Below wb.heap.size wb ((wb.alloc (.cells #[.int .i64 0, .int .i64 0, .slice none 0 0, .slice none 0 0] 29)).drew) := ((Below.refl _ _).alloc (Nat.le_refl _) _).drew; have hbw : Below wb.heap.size wb wm := hbx.trans (hbm.mono hbx.size); have hwm : g < wm.heap.size := Nat.lt_of_lt_of_le hz4 hbw.size; have hwl : lb < wm.heap.size := Nat.lt_of_lt_of_le hz5 hbw.size; have k0 := hbw.cell (p := ⟨g, 0, none⟩) hz4; have k1 := hbw.cell (p := ⟨g, 1, none⟩) hz4; have k2 := hbw.cell (p := ⟨g, 2, none⟩) hz4; have k3 := hbw.cell (p := ⟨g, 3, none⟩) hz4; have m0 := hbw.cell (p := ⟨lb, lo + k * 4, none⟩) hz5; have m1 := hbw.cell (p := ⟨lb, lo + k * 4 + 1, none⟩) hz5; have m2 := hbw.cell (p := ⟨lb, lo + k * 4 + 2, none⟩) hz5; have m3 := hbw.cell (p := ⟨lb, lo + k * 4 + 3, none⟩) hz5; simp only [World.size_alloc, World.size_drew] at hfv hfr; have N3 := (Blk.new wb 29 #[.int .i64 0, .int .i64 0, .slice none 0 0, .slice none 0 0]).drew.step hbm; have n1 := N3.cell; have n2 := N3.free; have n3 := N3.lt; clear hfr1 hfr2) | (go_at_call 16; refine (HM.out ((wb.alloc (.cells #[.int .i64 0, .int .i64 0, .int .i64 0, .int .i64 0, .int .i64 0] 38)).drew) _ _ _ (hR2.step ((Below.refl _ _).alloc (Nat.le_refl _) _).drew)).mono ?_; rintro e wm ⟨v1, vs1, rs1, rfl, hRm, hbm, hfr1, hfr2⟩; obtain ⟨oa1, cap1, rfl⟩ := ownsRow_shape hRm.vown; obtain ⟨ob1, cap1', rfl⟩ := ownsRow_shape hRm.rown; have heq := hRm.eq; subst heq; have hfv := fresh_far (own_lt hR2.vown) hfr1; have hfr := fresh_far (own_lt hR2.rown) hfr2; have hbx : Below wb.heap.size wb ((wb.alloc (.cells #[.int .i64 0, .int .i64 0, .int .i64 0, .int .i64 0, .int .i64 0] 38)).drew) := ((Below.refl _ _).alloc (Nat.le_refl _) _).drew; have hbw : Below wb.heap.size wb wm := hbx.trans (hbm.mono hbx.size); have hwm : g < wm.heap.size := Nat.lt_of_lt_of_le hz4 hbw.size; have hwl : lb < wm.heap.size := Nat.lt_of_lt_of_le hz5 hbw.size; have k0 := hbw.cell (p := ⟨g, 0, none⟩) hz4; have k1 := hbw.cell (p := ⟨g, 1, none⟩) hz4; have k2 := hbw.cell (p := ⟨g, 2, none⟩) hz4; have k3 := hbw.cell (p := ⟨g, 3, none⟩) hz4; have m0 := hbw.cell (p := ⟨lb, lo + k * 4, none⟩) hz5; have m1 := hbw.cell (p := ⟨lb, lo + k * 4 + 1, none⟩) hz5; have m2 := hbw.cell (p := ⟨lb, lo + k * 4 + 2, none⟩) hz5; have m3 := hbw.cell (p := ⟨lb, lo + k * 4 + 3, none⟩) hz5; simp only [World.size_alloc, World.size_drew] at hfv hfr; have N3 := (Blk.new wb 38 #[.int .i64 0, .int .i64 0, .int .i64 0, .int .i64 0, .int .i64 0]).drew.step hbm; have n1 := N3.cell; have n2 := N3.free; have n3 := N3.lt; clear hfr1 hfr2) | (go_at_call 16; refine (HM.out (((wb.alloc (.cells #[.int .i64 0, .int .i64 0, .slice none 0 0, .slice none 0 0] 29)).alloc (.cells #[.int .i64 0, .int .i64 0, .int .i64 0, .int .i64 0, .int .i64 0] 38)).drew) _ _ _ (hR2.step (((Below.refl _ _).alloc (Nat.le_refl _) _).alloc (by simp) _).drew)).mono ?_; rintro e wm ⟨v1, vs1, rs1, rfl, hRm, hbm, hfr1, hfr2⟩; obtain ⟨oa1, cap1, rfl⟩ := ownsRow_shape hRm.vown; obtain ⟨ob1, cap1', rfl⟩ := ownsRow_shape hRm.rown; have heq := hRm.eq; subst heq; have hfv := fresh_far (own_lt hR2.vown) hfr1; have hfr := fresh_far (own_lt hR2.rown) hfr2; have hbx : Below wb.heap.size wb (((wb.alloc (.cells #[.int .i64 0, .int .i64 0, .slice none 0 0, .slice none 0 0] 29)).alloc (.cells #[.int .i64 0, .int .i64 0, .int .i64 0, .int .i64 0, .int .i64 0] 38)).drew) := (((Below.refl _ _).alloc (Nat.le_refl _) _).alloc (by simp) _).drew; have hbw : Below wb.heap.size wb wm := hbx.trans (hbm.mono hbx.size); have hwm : g < wm.heap.size := Nat.lt_of_lt_of_le hz4 hbw.size; have hwl : lb < wm.heap.size := Nat.lt_of_lt_of_le hz5 hbw.size; have k0 := hbw.cell (p := ⟨g, 0, none⟩) hz4; have k1 := hbw.cell (p := ⟨g, 1, none⟩) hz4; have k2 := hbw.cell (p := ⟨g, 2, none⟩) hz4; have k3 := hbw.cell (p := ⟨g, 3, none⟩) hz4; have m0 := hbw.cell (p := ⟨lb, lo + k * 4, none⟩) hz5; have m1 := hbw.cell (p := ⟨lb, lo + k * 4 + 1, none⟩) hz5; have m2 := hbw.cell (p := ⟨lb, lo + k * 4 + 2, none⟩) hz5; have m3 := hbw.cell (p := ⟨lb, lo + k * 4 + 3, none⟩) hz5; simp only [World.size_alloc, World.size_drew] at hfv hfr; have N3 := ((Blk.new wb 29 #[.int .i64 0, .int .i64 0, .slice none 0 0, .slice none 0 0]).alloc (.cells #[.int .i64 0, .int .i64 0, .int .i64 0, .int .i64 0, .int .i64 0] 38)).drew.step hbm; have n1 := N3.cell; have n2 := N3.free; have n3 := N3.lt; have N4 := (Blk.new (wb.alloc (.cells #[.int .i64 0, .int .i64 0, .slice none 0 0, .slice none 0 0] 29)) 38 #[.int .i64 0, .int .i64 0, .int .i64 0, .int .i64 0, .int .i64 0]).drew.step hbm; simp only [World.size_alloc] at N4; have n5 := N4.cell; have n6 := N4.free; have n7 := N4.lt; clear hfr1 hfr2) | (go_at_call 16; refine (HM.out (((wb.alloc (.cells #[.int .i64 0, .int .i64 0, .int .i64 0, .int .i64 0, .int .i64 0] 38)).alloc (.cells #[.int .i64 0, .int .i64 0, .slice none 0 0, .slice none 0 0] 29)).drew) _ _ _ (hR2.step (((Below.refl _ _).alloc (Nat.le_refl _) _).alloc (by simp) _).drew)).mono ?_; rintro e wm ⟨v1, vs1, rs1, rfl, hRm, hbm, hfr1, hfr2⟩; obtain ⟨oa1, cap1, rfl⟩ := ownsRow_shape hRm.vown; obtain ⟨ob1, cap1', rfl⟩ := ownsRow_shape hRm.rown; have heq := hRm.eq; subst heq; have hfv := fresh_far (own_lt hR2.vown) hfr1; have hfr := fresh_far (own_lt hR2.rown) hfr2; have hbx : Below wb.heap.size wb (((wb.alloc (.cells #[.int .i64 0, .int .i64 0, .int .i64 0, .int .i64 0, .int .i64 0] 38)).alloc (.cells #[.int .i64 0, .int .i64 0, .slice none 0 0, .slice none 0 0] 29)).drew) := (((Below.refl _ _).alloc (Nat.le_refl _) _).alloc (by simp) _).drew; have hbw : Below wb.heap.size wb wm := hbx.trans (hbm.mono hbx.size); have hwm : g < wm.heap.size := Nat.lt_of_lt_of_le hz4 hbw.size; have hwl : lb < wm.heap.size := Nat.lt_of_lt_of_le hz5 hbw.size; have k0 := hbw.cell (p := ⟨g, 0, none⟩) hz4; have k1 := hbw.cell (p := ⟨g, 1, none⟩) hz4; have k2 := hbw.cell (p := ⟨g, 2, none⟩) hz4; have k3 := hbw.cell (p := ⟨g, 3, none⟩) hz4; have m0 := hbw.cell (p := ⟨lb, lo + k * 4, none⟩) hz5; have m1 := hbw.cell (p := ⟨lb, lo + k * 4 + 1, none⟩) hz5; have m2 := hbw.cell (p := ⟨lb, lo + k * 4 + 2, none⟩) hz5; have m3 := hbw.cell (p := ⟨lb, lo + k * 4 + 3, none⟩) hz5; simp only [World.size_alloc, World.size_drew] at hfv hfr; have N3 := ((Blk.new wb 38 #[.int .i64 0, .int .i64 0, .int .i64 0, .int .i64 0, .int .i64 0]).alloc (.cells #[.int .i64 0, .int .i64 0, .slice none 0 0, .slice none 0 0] 29)).drew.step hbm; have n1 := N3.cell; have n2 := N3.free; have n3 := N3.lt; have N4 := (Blk.new (wb.alloc (.cells #[.int .i64 0, .int .i64 0, .int .i64 0, .int .i64 0, .int .i64 0] 38)) 29 #[.int .i64 0, .int .i64 0, .slice none 0 0, .slice none 0 0]).drew.step hbm; simp only [World.size_alloc] at N4; have n5 := N4.cell; have n6 := N4.free; have n7 := N4.lt; clear hfr1 hfr2))
          all_goals (
            go_wp2_with fail
            go_meet
            refine ⟨_, _, oa1, cap1, ob1, cap1', rfl, rfl, rfl, rfl, ⟨?_, ?_, ?_, ?_⟩, ⟨?_, ?_, ?_, ?_, ?_⟩, ⟨rfl, ?_, ?_⟩, ?_⟩
            iterate 9 (focus (go_simp; done))
            · repeat (first | (with_reducible exact hRm.vown) | (with_reducible refine own_drew ?_) | (with_reducible refine World.ownsRow.alloc ?_ _) | ((with_reducible refine ownsRow_setCell_other ?_ ?_ _); rotate_left; (intro h; have hq := hfv _ h; dsimp only at hq; omega)))
            · repeat (first | (with_reducible exact hRm.rown) | (with_reducible refine own_drew ?_) | (with_reducible refine World.ownsRow.alloc ?_ _) | ((with_reducible refine ownsRow_setCell_other ?_ ?_ _); rotate_left; (intro h; have hq := hfr _ h; dsimp only at hq; omega)))
            · have hws := hbw.size
              repeat (first | (with_reducible exact Below.refl _ _) | (with_reducible assumption) | (with_reducible refine Below.drew ?_) | ((with_reducible refine Below.alloc ?_ ?_ _); rotate_left; (first | (with_reducible exact Nat.zero_le _) | (with_reducible exact Nat.le_refl _) | omega | (dsimp only; omega) | (simp only [World.size_alloc, World.size_setCell, World.size_drew]; omega))) | ((with_reducible refine Below.setCell ?_ ?_ _); rotate_left; (first | (with_reducible exact Nat.zero_le _) | (with_reducible exact Nat.le_refl _) | omega | (dsimp only; omega) | (simp only [World.size_alloc, World.size_setCell, World.size_drew]; omega)))))
        case rest =>
          obtain ⟨p13, p14, oa1, cap1, ob1, cap1', rfl, rfl, rfl, rfl, ⟨y0, y1, y2, y3⟩, ⟨z0, z1, z2, z3, z4⟩, hR3, hb4⟩ := hcut
          have BV2 := BV.step hb4
          have G2 := hG2.step hb4
          have H4 := H3.step hb4
          have hF4 := hF2.trans (.of_below hb4)
          have v0 := BV2.cell
          have v1 := BV2.lt
          have c0 := G2.cell
          have f0 := G2.free
          have l0 := G2.lt
          have TG := G2.ty
          clear e0 e1 e2 e3 BV hG2 hR2 H3 hF2 hb4 g0 g1 g2 g3 hmod
          go_upto_region 15 with fail
          have K5 := (((G2.put 0 (.int .i64 B'.valid)).put 1 (.int .i64 B'.now)).put 2 (.slice oa1 B'.es.length cap1)).put 3 (.slice ob1 B'.es.length cap1')
          have hw5 : FrT 0 (fun t => t == 29) wc ((((wc.setCell ⟨g, 0, none⟩ (.int .i64 B'.valid)).setCell ⟨g, 1, none⟩ (.int .i64 B'.now)).setCell ⟨g, 2, none⟩ (.slice oa1 B'.es.length cap1)).setCell ⟨g, 3, none⟩ (.slice ob1 B'.es.length cap1')) := by
            repeat (first | (with_reducible exact FrT.refl _ _ _) | (with_reducible assumption) | (with_reducible refine FrT.drew ?_) | (with_reducible refine FrT.alloc ?_ _) | ((with_reducible refine FrT.setNew ?_ ?_ _); rotate_left; (first | (with_reducible exact Nat.zero_le _) | (with_reducible exact Nat.le_refl _) | omega | (dsimp only; omega) | (simp only [World.size_alloc, World.size_setCell, World.size_drew]; omega))) | ((with_reducible refine FrT.setT ?_ ?_ ?_ _); rotate_left; (first | (with_reducible exact Nat.zero_le _) | (with_reducible exact Nat.le_refl _) | omega | (dsimp only; omega) | (simp only [World.size_alloc, World.size_setCell, World.size_drew]; omega)); apply TyT.intro; (repeat (first | (with_reducible assumption) | (with_reducible apply Ty.set) | (with_reducible apply Ty.alloc) | (with_reducible apply Ty.drew) | (with_reducible exact Ty.new _ _ _ _))); rfl))
          have hF5 : FrT w.heap.size TB w ((((wc.setCell ⟨g, 0, none⟩ (.int .i64 B'.valid)).setCell ⟨g, 1, none⟩ (.int .i64 B'.now)).setCell ⟨g, 2, none⟩ (.slice oa1 B'.es.length cap1)).setCell ⟨g, 3, none⟩ (.slice ob1 B'.es.length cap1')) := by
            repeat (first | (with_reducible exact FrT.refl _ _ _) | (with_reducible assumption) | (with_reducible refine FrT.drew ?_) | (with_reducible refine FrT.alloc ?_ _) | ((with_reducible refine FrT.setNew ?_ ?_ _); rotate_left; (first | (with_reducible exact Nat.zero_le _) | (with_reducible exact Nat.le_refl _) | omega | (dsimp only; omega) | (simp only [World.size_alloc, World.size_setCell, World.size_drew]; omega))) | ((with_reducible refine FrT.setT ?_ ?_ ?_ _); rotate_left; (first | (with_reducible exact Nat.zero_le _) | (with_reducible exact Nat.le_refl _) | omega | (dsimp only; omega) | (simp only [World.size_alloc, World.size_setCell, World.size_drew]; omega)); apply TyT.intro; (repeat (first | (with_reducible assumption) | (with_reducible apply Ty.set) | (with_reducible apply Ty.alloc) | (with_reducible apply Ty.drew) | (with_reducible exact Ty.new _ _ _ _))); rfl))
          have H5 := H4.frT hw5 rfl rfl
          have R5 := hR3.frT hw5 rfl rfl
          generalize ((((wc.setCell ⟨g, 0, none⟩ (.int .i64 B'.valid)).setCell ⟨g, 1, none⟩ (.int .i64 B'.now)).setCell ⟨g, 2, none⟩ (.slice oa1 B'.es.length cap1)).setCell ⟨g, 3, none⟩ (.slice ob1 B'.es.length cap1')) = w5 at *
          replace K5 : Blk w5 g 29 #[.int .i64 B'.valid, .int .i64 B'.now, .slice oa1 B'.es.length cap1, .slice ob1 B'.es.length cap1'] := by simpa using K5
          clear v0 v1 c0 f0 l0 TG hw5 hF4 H4 hR3 G2 BV2 y0 y1 y2 y3 z0 z1 z2 z3 z4
          go_wp2_with fail
          refine (totals_any H5 ok2).mono ?_
          rintro e w6 ⟨rfl, hb6⟩
          have H6 := H5.step hb6
          have R6 := R5.step hb6
          have K6 := K5.step hb6
          have hF6 := hF5.trans (.of_below hb6)
          have c6 := K6.cell
          have l6 := K6.lt
          clear H5 R5 K5 hF5 hb6
          go_wp2_with fail
          refine (rtot_any R6 ok2).mono ?_
          rintro e w7 ⟨rfl, hb7⟩
          have H7 := H6.step hb7
          have R7 := R6.step hb7
          have K7 := K6.step hb7
          have hF7 := hF6.trans (.of_below hb7)
          clear c6 l6
          generalize totV B' = T at *
          generalize paidV B' = P at *
          have HST := Lib.hid hst
          clear hst
          go_wp2_with fail
          go_roundw
          case rel => exact ⟨k + 1, hlt, by simp, hF7, _, _, _, by rw [HST.out]; exact H7, by rw [HST.out]; exact R7, by rw [HST.out]; exact K7⟩
          case measure => simp [intOf]; omega
      · obtain rfl : k = l.length := by omega
        go_wp2_with fail
        refine (awake_any _).mono ?_
        rintro e w4 ⟨rfl, hb4⟩
        go_wp2_with fail
        go_ret
        exact ⟨by simp, (hF.trans (.of_below hb4)).below (Nat.le_refl _)⟩

end Go.Proofs.Ytbpeiljpbcgjaaa
