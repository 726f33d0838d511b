/- The laws VoucherExpires and VoucherFull. -/
import Derived.Test.YtbpeiljpbcgjaaaVoucherO
import Derived.Deep.QuietTactic
import Derived.BigQuiet
namespace Go.Proofs.Ytbpeiljpbcgjaaa
set_option linter.unusedVariables false
set_option linter.unusedSimpArgs false
open Go.RowKit

/-- The book of one voucher. -/
theorem one_issued {S a t : Int} (he : issE ⟨S, 0, []⟩ 0 a t = 0) (u : Int) (h1 : t ≤ u) (h2 : u ≤ 3155759999) :
    issB ⟨S, 0, []⟩ 0 a t = ⟨S, t, [⟨1, 0, a, t, t + S, false⟩]⟩ ∧ issV ⟨S, 0, []⟩ 0 a t = ⟨1, 0, a, t, t + S, false⟩ ∧ 1 ≤ a ∧ a ≤ 1000000 ∧ 0 ≤ t ∧
    momE ⟨S, t, [⟨1, 0, a, t, t + S, false⟩]⟩ u = 0 ∧
    (u < t + S → openV ⟨S, t, [⟨1, 0, a, t, t + S, false⟩]⟩ u = a ∧ lapV ⟨S, t, [⟨1, 0, a, t, t + S, false⟩]⟩ u = 0 ∧ redV ⟨S, t, [⟨1, 0, a, t, t + S, false⟩]⟩ 1 u = a ∧ redE ⟨S, t, [⟨1, 0, a, t, t + S, false⟩]⟩ 1 u = 0) ∧
    (¬ u < t + S → openV ⟨S, t, [⟨1, 0, a, t, t + S, false⟩]⟩ u = 0 ∧ lapV ⟨S, t, [⟨1, 0, a, t, t + S, false⟩]⟩ u = a ∧ redV ⟨S, t, [⟨1, 0, a, t, t + S, false⟩]⟩ 1 u = 0 ∧ redE ⟨S, t, [⟨1, 0, a, t, t + S, false⟩]⟩ 1 u = 31) := by
  have hb : issB ⟨S, 0, []⟩ 0 a t = ⟨S, t, [⟨1, 0, a, t, t + S, false⟩]⟩ := by unfold issB; rw [if_pos he]; rfl
  have hv : issV ⟨S, 0, []⟩ 0 a t = ⟨1, 0, a, t, t + S, false⟩ := by unfold issV; rw [if_pos he]; rfl
  unfold issE at he
  rw [if_neg (by omega)] at he
  have ha : ¬ (a < 1 ∨ a > 1000000) := fun h => by rw [if_pos h] at he; omega
  rw [if_neg ha] at he
  have hm : momE ⟨S, 0, []⟩ t = 0 := by
    rcases Decidable.em (momE ⟨S, 0, []⟩ t = 0) with h | h
    · exact h
    · rw [if_pos h] at he; omega
  obtain ⟨t1, t2, _⟩ := momE_ok hm
  have hmu : momE ⟨S, t, [⟨1, 0, a, t, t + S, false⟩]⟩ u = 0 := by unfold momE; rw [if_neg (by omega), if_neg (by simp only; omega)]
  have hent : entAt ⟨S, t, [⟨1, 0, a, t, t + S, false⟩]⟩ 1 = ⟨1, 0, a, t, t + S, false⟩ := rfl
  refine ⟨hb, hv, by omega, by omega, t1, hmu, fun h => ?_, fun h => ?_⟩
  · have hr : redE ⟨S, t, [⟨1, 0, a, t, t + S, false⟩]⟩ 1 u = 0 := by
      unfold redE; rw [hmu, hent]; simp; omega
    unfold openV lapV redV
    rw [hmu, hr, hent]
    simp [sumIf, isOpen, isLapsed, h]
    try omega
  · have hr : redE ⟨S, t, [⟨1, 0, a, t, t + S, false⟩]⟩ 1 u = 31 := by
      unfold redE; rw [hmu, hent]; simp; omega
    unfold openV lapV redV
    rw [hmu, hr]
    simp [sumIf, isOpen, isLapsed, h]
    try omega


set_option maxHeartbeats 2000000 in
theorem law_expires (n a t u : Int) (hn0 : 0 ≤ n) (hn1 : n < 4294967296) (w : World) :
    Calls Try.prog 7 #[.int .u32 n, .int .i64 a, .int .i64 t, .int .i64 u] w fun e w' => e = .returned (.bool true) ∧ Below w.heap.size w w' := by
  obtain ⟨hs1, hs2⟩ := spanV_bd hn0
  have hone := @one_issued (spanV n) a t
  go_enter Try.func7, Try.ntmps7
  go_wp2_with (first | (go_at_call 14; refine (span_any' _ hn0 hn1 _).mono ?_; rintro e w' ⟨rfl, rfl⟩) | (go_at_call 11; refine (new_ok (spanV n) hs1 hs2 _).mono ?_; rintro e w1 ⟨rfl, H1, hb1⟩))
  have ok0 := new_bk_ok hs1 hs2
  refine (issue_any H1 ok0 hb1.size 0 a t).mono ?_
  rintro e w2 ⟨rfl, sv2, H2, hf2⟩
  have F2 := (FrT.of_below (base := w.heap.size) (T := TB) hb1).trans hf2
  by_cases he : issE ⟨spanV n, 0, []⟩ 0 a t = 0
  · by_cases hu : u < t ∨ u > 3155759999
    · generalize issV ⟨spanV n, 0, []⟩ 0 a t = x at *
      rw [he]
      clear he hone H2
      unfold encV
      rcases hu with hu | hu
      · go_wp2_with fail
        refine (awake_any _).mono ?_
        rintro e w9 ⟨rfl, hb9⟩
        go_wp2_with fail
        go_ret
        exact ⟨rfl, ((F2.alloc _).trans (.of_below hb9)).below (Nat.le_refl _)⟩
      · by_cases hu' : u < t
        · go_wp2_with fail
          refine (awake_any _).mono ?_
          rintro e w9 ⟨rfl, hb9⟩
          go_wp2_with fail
          go_ret
          exact ⟨rfl, ((F2.alloc _).trans (.of_below hb9)).below (Nat.le_refl _)⟩
        · go_wp2_with fail
          refine (awake_any _).mono ?_
          rintro e w9 ⟨rfl, hb9⟩
          go_wp2_with fail
          go_ret
          exact ⟨rfl, ((F2.alloc _).trans (.of_below hb9)).below (Nat.le_refl _)⟩
    · obtain ⟨hb, hv, a1, a2, t1, hm, hO, hL⟩ := hone he u (by omega) (by omega)
      have ok2 := issB_ok ok0 0 a t
      rw [hv, he]
      rw [hb] at H2 ok2
      have u1 : ¬ u < t := by omega
      have u2 : ¬ u > 3155759999 := by omega
      clear hone hb hv he hu
      have hw : IntKind.i64.wrap (t + spanV n) = t + spanV n := wrapI _ (by omega)
      unfold encV
      have BV := Blk.new w2 38 #[.int .i64 1, .int .i64 0, .int .i64 a, .int .i64 t, .int .i64 (t + spanV n)]
      replace H2 := H2.step (w' := w2.alloc (.cells #[.int .i64 1, .int .i64 0, .int .i64 a, .int .i64 t, .int .i64 (t + spanV n)] 38)) (by ((repeat (first | exact Below.refl _ _ | refine Below.drew ?_ | refine Below.alloc ?_ (by first | exact Nat.le_refl _ | omega | (simp only [World.size_alloc, World.size_drew, World.size_setCell]; omega)) _)); first | (fail_if_success (focus skip)) | fail))
      replace F2 := F2.alloc (.cells #[.int .i64 1, .int .i64 0, .int .i64 a, .int .i64 t, .int .i64 (t + spanV n)] 38)
      go_wp2_with fail
      refine (open_any H2 ok2 u).mono ?_
      rintro e w3 ⟨rfl, hb3⟩
      rw [hm]
      replace BV := BV.step hb3
      have H3 := H2.step hb3
      have F3 := F2.trans (.of_below hb3)
      go_wp2_with fail
      refine (lapsed_any H3 ok2 u).mono ?_
      rintro e w4 ⟨rfl, hb4⟩
      rw [hm]
      replace BV := BV.step hb4
      have H4 := H3.step hb4
      have F4 := F3.trans (.of_below hb4)
      go_wp2_with fail
      refine (redeem_any H4 ok2 1 u).mono ?_
      rintro e w5 ⟨rfl, H5, hf5⟩
      replace BV := BV.frT hf5 (.inr rfl)
      have F5 := F4.trans hf5
      clear H2 H3 H4 H5 ok2 ok0 hm
      by_cases hlt : u < t + spanV n
      · obtain ⟨o1, o2, o3, o4⟩ := hO hlt
        rw [o1, o2, o3, o4]
        clear hO hL o1 o2 o3 o4
        have c0 := BV.cell
        have l0 := BV.lt
        go_wp2_with fail
        go_quiet ((go_at_call 14; exact Calls.quiet_of_same (span_any _ hn0 hn1 _)))
        go_wp2_with fail
        refine (awake_any _).mono ?_
        rintro e w9 ⟨rfl, hb9⟩
        go_wp2_with fail
        go_ret
        refine ⟨by simp, ?_⟩
        have F6 : FrT w.heap.size TB w (w5.drewN nq) := ⟨F5.os, F5.tape, F5.output, F5.size, F5.block⟩
        exact (F6.trans (.of_below hb9)).below (Nat.le_refl _)
      · obtain ⟨o1, o2, o3, o4⟩ := hL (by omega)
        rw [o1, o2, o3, o4]
        clear hO hL o1 o2 o3 o4
        have c0 := BV.cell
        have l0 := BV.lt
        go_wp2_with fail
        go_quiet ((go_at_call 14; exact Calls.quiet_of_same (span_any _ hn0 hn1 _)))
        go_wp2_with fail
        refine (awake_any _).mono ?_
        rintro e w9 ⟨rfl, hb9⟩
        go_wp2_with fail
        go_ret
        refine ⟨by simp, ?_⟩
        have F6 : FrT w.heap.size TB w (w5.drewN nq) := ⟨F5.os, F5.tape, F5.output, F5.size, F5.block⟩
        exact (F6.trans (.of_below hb9)).below (Nat.le_refl _)
  · have he' : (issE ⟨spanV n, 0, []⟩ 0 a t != 0) = true := by simpa using he
    clear he hone H2
    generalize issV ⟨spanV n, 0, []⟩ 0 a t = x at *
    generalize issE ⟨spanV n, 0, []⟩ 0 a t = er at *
    unfold encV
    go_wp2_with fail
    refine (awake_any _).mono ?_
    rintro e w9 ⟨rfl, hb9⟩
    go_wp2_with fail
    go_ret
    exact ⟨rfl, ((F2.alloc _).trans (.of_below hb9)).below (Nat.le_refl _)⟩

/-- The book after k of the law's issues. -/
def fb (S a t : Int) : Nat → Bk
  | 0 => ⟨S, 0, []⟩
  | k + 1 => issB (fb S a t k) (((k : Int) + 1) % 8) a t
theorem fb_ok {S a t : Int} (hS1 : 1 ≤ S) (hS2 : S ≤ 31622400) : ∀ k, BkOk (fb S a t k)
  | 0 => new_bk_ok hS1 hS2
  | k + 1 => issB_ok (fb_ok hS1 hS2 k) _ _ _
theorem fb_step {S a t : Int} (ha1 : 1 ≤ a) (ha2 : a ≤ 1000000) (ht1 : 0 ≤ t) (ht2 : t ≤ 3155759999) : ∀ k : Nat, k ≤ 512 →
    (fb S a t k).es.length = k ∧ (fb S a t k).now ≤ t ∧ totV (fb S a t k) = k * a ∧ (k < 512 → ∀ m, 0 ≤ m → m < 8 → issE (fb S a t k) m a t = 0 ∧ (issV (fb S a t k) m a t).num = k + 1)
  | 0, _ => by
    have hm : momE ⟨S, 0, []⟩ t = 0 := by unfold momE; rw [if_neg (by omega), if_neg (by simp only; omega)]
    refine ⟨rfl, ht1, by simp [fb, totV, sumIf], fun _ m h1 h2 => ?_⟩
    have he : issE (fb S a t 0) m a t = 0 := by
      unfold issE fb
      rw [if_neg (by omega), if_neg (by omega), hm]
      simp
    refine ⟨he, ?_⟩
    unfold issV; rw [if_pos he]; rfl
  | k + 1, hk => by
    obtain ⟨h1, h2, h3, h4⟩ := fb_step (S := S) ha1 ha2 ht1 ht2 k (by omega)
    obtain ⟨g1, g2⟩ := h4 (by omega) (((k : Int) + 1) % 8) (by omega) (by omega)
    have hB : fb S a t (k + 1) = { fb S a t k with es := (fb S a t k).es ++ [newE (fb S a t k) (((k : Int) + 1) % 8) a t], now := t } := by
      show issB _ _ _ _ = _
      unfold issB; rw [if_pos g1]
    have hl : (fb S a t (k + 1)).es.length = k + 1 := by rw [hB]; simp [h1]
    have hn : (fb S a t (k + 1)).now = t := by rw [hB]
    refine ⟨hl, by omega, ?_, fun hk' m m1 m2 => ?_⟩
    · have ht := (tot_issue (fb S a t k) (((k : Int) + 1) % 8) a t).1
      rw [if_pos g1] at ht
      show totV (issB _ _ _ _) = _
      rw [ht, h3]
      have : (issV (fb S a t k) (((k : Int) + 1) % 8) a t).amt = a := by unfold issV; rw [if_pos g1]; rfl
      rw [this]
      rw [show ((k + 1 : Nat) : Int) = k + 1 by omega, Int.add_mul]
      omega
    · have hm : momE (fb S a t (k + 1)) t = 0 := by unfold momE; rw [if_neg (by omega), if_neg (by omega)]
      have he : issE (fb S a t (k + 1)) m a t = 0 := by
        unfold issE
        rw [if_neg (by omega), if_neg (by omega), hm, if_neg (by simp), if_neg (by omega)]
      refine ⟨he, ?_⟩
      unfold issV; rw [if_pos he]
      simp only [newE, hl]
theorem fb_full {S a t : Int} (k : Nat) (hk : k = 512) (ha1 : 1 ≤ a) (ha2 : a ≤ 1000000) (ht1 : 0 ≤ t) (ht2 : t ≤ 3155759999) : issE (fb S a t k) 0 a t = 8 ∧ issE (fb S a t k) 0 0 t = 1 := by
  obtain ⟨h1, h2, _, _⟩ := fb_step (S := S) ha1 ha2 ht1 ht2 k (by omega)
  have hm : momE (fb S a t k) t = 0 := by unfold momE; rw [if_neg (by omega), if_neg (by omega)]
  unfold issE
  rw [if_neg (by omega), if_neg (by omega), hm, if_neg (by simp), if_pos (by omega), if_neg (by omega), if_pos (by omega)]
  exact ⟨rfl, rfl⟩

def FullRel (W : World) (S a t : Int) (i : Value) (wr : World) : Prop :=
  ∃ k : Nat, k ≤ 512 ∧ i = .int .i64 (k + 1) ∧ FrT W.heap.size TB W wr ∧ ∃ sv, Holds wr W.heap.size W.heap.size sv (fb S a t k)

set_option maxRecDepth 100000 in
set_option maxHeartbeats 2000000 in
theorem law_full (n a t : Int) (hn0 : 0 ≤ n) (hn1 : n < 4294967296) (ha0 : 0 ≤ a) (ha1 : a < 4294967296) (ht0 : 0 ≤ t) (ht1 : t < 4294967296) (w : World) :
    Calls Try.prog 8 #[.int .u32 n, .int .u32 a, .int .u32 t] w fun e w' => e = .returned (.bool true) ∧ Below w.heap.size w w' := by
  obtain ⟨hs1, hs2⟩ := spanV_bd hn0
  have h1 : t.tmod 3155760000 = t % 3155760000 := Int.tmod_eq_emod_of_nonneg ht0
  have h2 : a.tmod 1000000 = a % 1000000 := Int.tmod_eq_emod_of_nonneg ha0
  obtain ⟨T, hT, hT1, hT2⟩ : ∃ T, t % 3155760000 = T ∧ 0 ≤ T ∧ T ≤ 3155759999 := ⟨_, rfl, by omega, by omega⟩
  obtain ⟨A, hA, hA1, hA2⟩ : ∃ A, a % 1000000 = A ∧ 0 ≤ A ∧ A < 1000000 := ⟨_, rfl, by omega, by omega⟩
  rw [hT] at h1
  rw [hA] at h2
  go_enter Try.func8, Try.ntmps8
  go_wp2_with (first | (go_at_call 14; refine (span_any' _ hn0 hn1 _).mono ?_; rintro e w' ⟨rfl, rfl⟩) | (go_at_call 11; refine (new_ok (spanV n) hs1 hs2 _).mono ?_; rintro e w1 ⟨rfl, H1, hb1⟩))
  generalize spanV n = S at *
  go_loopw [11] (fun i wr => FullRel w S (1 + A) T i wr) (fun i _ => (513 - intOf i).toNat)
  case atStart => exact ⟨0, by omega, rfl, .of_below hb1, _, H1⟩
  case round =>
    obtain ⟨k, hk, rfl, hF, sv, hH⟩ := hrel
    have okk := fb_ok (a := 1 + A) (t := T) hs1 hs2 k
    obtain ⟨q1, q2, q3, q4⟩ := fb_step (S := S) (a := 1 + A) (t := T) (by omega) (by omega) hT1 hT2 k hk
    have hFb := hF.below (Nat.le_refl _)
    have hwz := hFb.size
    by_cases hlt : k < 512
    · obtain ⟨g1, g2⟩ := q4 hlt (((k : Int) + 1) % 8) (by omega) (by omega)
      clear q1 q2 q3 q4 h1 h2 hT hA H1
      have hnext : fb S (1 + A) T (k + 1) = issB (fb S (1 + A) T k) (((k : Int) + 1) % 8) (1 + A) T := rfl
      obtain ⟨B1, hB1⟩ : ∃ B1, B1 = fb S (1 + A) T (k + 1) := ⟨_, rfl⟩
      rw [← hB1] at hnext
      have HB1 := Lib.hid hB1
      clear hB1
      generalize fb S (1 + A) T k = B at *
      have HN := Lib.hid hnext
      clear hnext
      have hm8 : ((k : Int) + 1).tmod 8 = ((k : Int) + 1) % 8 := Int.tmod_eq_emod_of_nonneg (by omega)
      go_wp2_with fail
      refine (issue_any hH okk hwz (((k : Int) + 1) % 8) (1 + A) T).mono ?_
      rintro e w1 ⟨rfl, sv', H2, hf2⟩
      rw [g1]
      have H3 : Holds w1 w.heap.size w.heap.size sv' B1 := by rw [HN.out]; exact H2
      have hF2 := hF.trans hf2
      clear g1 H2 hH okk
      generalize issV B (((k : Int) + 1) % 8) (1 + A) T = x at *
      obtain ⟨xn, xm, xa, xt, xu, xr⟩ := x
      obtain rfl : xn = (k : Int) + 1 := g2
      unfold encV
      go_wp2_with fail
      go_roundw
      case rel => exact ⟨k + 1, hlt, by simp, hF2.alloc _, _, by rw [← HB1.out]; exact H3.step ((Below.refl _ _).alloc (Nat.le_refl _) _)⟩
      case measure => simp [intOf]; omega
    · have hk5 : k = 512 := by omega
      have hge : ¬ ((k : Int) + 1 ≤ 512) := by omega
      obtain ⟨g1, g2⟩ := fb_full (S := S) k hk5 (a := 1 + A) (t := T) (by omega) (by omega) hT1 hT2
      have b1 : issB (fb S (1 + A) T k) 0 (1 + A) T = fb S (1 + A) T k := by unfold issB; rw [g1]; simp
      have b2 : issB (fb S (1 + A) T k) 0 0 T = fb S (1 + A) T k := by unfold issB; rw [g2]; simp
      have q3' : totV (fb S (1 + A) T k) = 512 * (1 + A) := by rw [q3, hk5]; rfl
      clear hk5 hlt hk
      clear q1 q2 q3 q4 h1 h2 hT hA H1
      go_wp2_with fail
      refine (issue_any hH okk hwz 0 (1 + A) T).mono ?_
      rintro e w1 ⟨rfl, sv1, H2, hf2⟩
      rw [g1]
      rw [b1] at H2
      have hF2 := hF.trans hf2
      clear g1 b1 hH
      generalize issV (fb S (1 + A) T k) 0 (1 + A) T = x at *
      unfold encV
      go_wp2_with fail
      have H3 := H2.step (w' := w1.alloc (.cells #[.int .i64 x.num, .int .i64 x.mach, .int .i64 x.amt, .int .i64 x.at_, .int .i64 x.til] 38)) (by ((repeat (first | exact Below.refl _ _ | refine Below.drew ?_ | refine Below.alloc ?_ (by first | exact Nat.le_refl _ | omega | (simp only [World.size_alloc, World.size_drew, World.size_setCell]; omega)) _)); first | (fail_if_success (focus skip)) | fail))
      have hF3 := hF2.alloc (.cells #[.int .i64 x.num, .int .i64 x.mach, .int .i64 x.amt, .int .i64 x.at_, .int .i64 x.til] 38)
      refine (issue_any H3 okk hF3.size 0 0 T).mono ?_
      rintro e w2 ⟨rfl, sv2, H4, hf4⟩
      rw [g2]
      rw [b2] at H4
      have hF4 := hF3.trans hf4
      clear g2 b2 H2 H3
      generalize issV (fb S (1 + A) T k) 0 0 T = y at *
      unfold encV
      go_wp2_with fail
      have H5 := H4.step (w' := w2.alloc (.cells #[.int .i64 y.num, .int .i64 y.mach, .int .i64 y.amt, .int .i64 y.at_, .int .i64 y.til] 38)) (by ((repeat (first | exact Below.refl _ _ | refine Below.drew ?_ | refine Below.alloc ?_ (by first | exact Nat.le_refl _ | omega | (simp only [World.size_alloc, World.size_drew, World.size_setCell]; omega)) _)); first | (fail_if_success (focus skip)) | fail))
      have hF5 := hF4.alloc (.cells #[.int .i64 y.num, .int .i64 y.mach, .int .i64 y.amt, .int .i64 y.at_, .int .i64 y.til] 38)
      refine (totals_any H5 okk).mono ?_
      rintro e w3 ⟨rfl, hb3⟩
      rw [q3']
      have hF6 := hF5.trans (.of_below hb3)
      clear H4 H5 okk q3'
      generalize fb S (1 + A) T k = B at *
      go_wp2_with fail
      refine (awake_any _).mono ?_
      rintro e w4 ⟨rfl, hb4⟩
      go_wp2_with fail
      go_ret
      exact ⟨by simp, (hF6.trans (.of_below hb4)).below (Nat.le_refl _)⟩

end Go.Proofs.Ytbpeiljpbcgjaaa
