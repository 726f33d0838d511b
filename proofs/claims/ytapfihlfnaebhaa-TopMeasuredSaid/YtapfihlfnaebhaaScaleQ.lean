/- More plain arithmetic of scales: for the statements without the reference. No program in sight. -/
import Derived.Test.YtapfihlfnaebhaaScaleP
namespace Go.Proofs.Ytapfihlfnaebhaa
set_option linter.unusedVariables false
set_option linter.unusedSimpArgs false

theorem up_le {a k x : Int} (ha : 1 ≤ a) : (x + a - 1) / a * a ≤ k * a ↔ x ≤ k * a := by
  rw [Int.mul_le_mul_right (by omega), ← Int.lt_add_one_iff, Int.ediv_lt_iff_lt_mul (by omega), Int.add_mul]
  omega
theorem le_down {a k x : Int} (ha : 1 ≤ a) : k * a ≤ x / a * a ↔ k * a ≤ x := by
  rw [Int.mul_le_mul_right (by omega), Int.le_ediv_iff_mul_le (by omega)]
theorem mul_of_mod {a n : Int} (h : n % a = 0) : ∃ k, n = k * a := ⟨n / a, (Int.ediv_mul_cancel (Int.dvd_of_emod_eq_zero h)).symm⟩

theorem shw_iff {a b n : Int} : shw a b n = true ↔ 0 ≤ n ∧ n ≤ b ∧ n % a = 0 := by
  simp [shw, and_assoc]

/-- Which numbers can be shown for a mass: the multiples of the step from shLo to shHi. -/
theorem cld_iff {a b c d e f m n t : Int} (hn : errn a b c d e f m t = 0) :
    cld a b c d e f m n t = true ↔ shw a b n = true ∧ shLo a (bnd c d e f m t) m ≤ n ∧ n ≤ shHi a b (bnd c d e f m t) m := by
  obtain ⟨hV, hm, hm', ht0, ht, hft⟩ := errn_ok.1 hn
  have a1 := hV.a1
  have hE := (bnd_bd hV hm hm' ht hft).1
  simp only [cld, hn, decide_true, Bool.true_and, Bool.and_eq_true, nearB_iff]
  generalize bnd c d e f m t = E at *
  constructor
  · rintro ⟨hs, h1, h2⟩
    refine ⟨hs, ?_⟩
    obtain ⟨s1, s2, s3⟩ := shw_iff.1 hs
    obtain ⟨k, rfl⟩ := mul_of_mod s3
    rw [shLo, shHi, up_le a1, le_down a1]
    unfold wid
    constructor <;> split <;> omega
  · rintro ⟨hs, h1, h2⟩
    refine ⟨hs, ?_⟩
    obtain ⟨s1, s2, s3⟩ := shw_iff.1 hs
    obtain ⟨k, rfl⟩ := mul_of_mod s3
    rw [shLo, up_le a1] at h1
    rw [shHi, le_down a1] at h2
    unfold wid at h1 h2
    split at h1 <;> split at h2 <;> omega

theorem shLo_facts {a b E m : Int} (a1 : 1 ≤ a) (b1 : a ≤ b) (hm : 0 ≤ m) (hE : 0 ≤ E) : 0 ≤ shLo a E m ∧ shHi a b E m ≤ b ∧ shLo a E m % a = 0 ∧ shHi a b E m % a = 0 := by
  refine ⟨?_, ?_, ?_, ?_⟩
  · exact (dm (x := (if wid a E < m then m - wid a E else 0) + a - 1) (by split <;> omega) a1).2.2.1
  · have h := (dm (x := if m + wid a E < b then m + wid a E else b) (by unfold wid; split <;> omega) a1).2.2.2
    unfold shHi
    split at h <;> split <;> omega
  · exact Int.mul_emod_left _ _
  · exact Int.mul_emod_left _ _

theorem cld_no {a b c d e f m n t : Int} (hn : errn a b c d e f m t ≠ 0) : cld a b c d e f m n t = false := by
  simp [cld, hn]
theorem cld_trn {a b c d e f m n t : Int} (hn : trn a b c d e f n t ≠ 0) : cld a b c d e f m n t = false := by
  cases h : cld a b c d e f m n t
  · rfl
  · exfalso
    by_cases he : errn a b c d e f m t = 0
    · obtain ⟨hV, hm, hm', ht0, ht, hft⟩ := errn_ok.1 he
      exact hn (trn_ok.2 ⟨hV, ((cld_iff he).1 h).1, ht0, ht, hft⟩)
    · rw [cld_no he] at h; cases h

/-- ScaleSound, the case without an error. -/
theorem sound_ok {a b c d e f m n t : Int} (h0 : trn a b c d e f n t = 0) :
    0 ≤ trlo a b c d e f n t ∧ trlo a b c d e f n t ≤ n ∧ n ≤ trhi a b c d e f n t ∧ trhi a b c d e f n t ≤ 1073741824 ∧ cld a b c d e f n n t = true ∧
      cld a b c d e f m n t = (decide (trlo a b c d e f n t ≤ m) && decide (m ≤ trhi a b c d e f n t)) ∧
      cld a b c d e f m n t = (decide (shn a b c d e f m t = 0) && decide (shlo a b c d e f m t ≤ n) && decide (n ≤ shhi a b c d e f m t)) := by
  obtain ⟨hV, hs, ht0, ht, hft⟩ := trn_ok.1 h0
  obtain ⟨n1, n2⟩ := shw_bd hs
  have n3 : n ≤ 1073741824 := by have := hV.b2; omega
  have hT := tSpan_is (c := c) (e := e) hV n1 n3 ht hft
  simp only [trlo, trhi, h0, if_true]
  obtain ⟨T1, T2, T3, T4, T5⟩ := hT
  have hnear : ∀ m, 0 ≤ m → m ≤ 1073741824 → cld a b c d e f m n t = nearB a c d e f m n t := fun m h1 h2 => by
    simp [cld, hs, errn_ok.2 ⟨hV, h1, h2, ht0, ht, hft⟩]
  refine ⟨T1, T2, T3, T4, ?_, ?_, ?_⟩
  · rw [hnear n n1 n3]
    exact near_self hV.a1 (bnd_bd hV n1 n3 ht hft).1
  · by_cases hm : 0 ≤ m ∧ m ≤ 1073741824
    · rw [hnear m hm.1 hm.2, Bool.eq_iff_iff, T5 m hm.1 hm.2]
      simp
    · rw [cld_no (fun h => hm ⟨(errn_ok.1 h).2.1, (errn_ok.1 h).2.2.1⟩), eq_comm]
      simp
      omega
  · by_cases he : errn a b c d e f m t = 0
    · rw [Bool.eq_iff_iff, cld_iff he]
      have hsn : shn a b c d e f m t = if shLo a (bnd c d e f m t) m > shHi a b (bnd c d e f m t) m then 10 else 0 := by simp [shn, he]
      simp only [hs, true_and, Bool.and_eq_true, decide_eq_true_eq]
      constructor
      · rintro ⟨h1, h2⟩
        have h3 : shn a b c d e f m t = 0 := by rw [hsn, if_neg (by omega)]
        exact ⟨⟨h3, by simp only [shlo, h3, if_true]; exact h1⟩, by simp only [shhi, h3, if_true]; exact h2⟩
      · rintro ⟨⟨h3, h1⟩, h2⟩
        simp only [shlo, shhi, h3, if_true] at h1 h2
        exact ⟨h1, h2⟩
    · have h3 : shn a b c d e f m t ≠ 0 := by simp [shn, he]
      rw [cld_no he]
      simp [h3]

/-- ScaleBetween, the case without an error. -/
theorem between_ok {a b c d e f m t : Int} (h0 : shn a b c d e f m t = 0) :
    0 ≤ shlo a b c d e f m t ∧ shlo a b c d e f m t ≤ shhi a b c d e f m t ∧ shhi a b c d e f m t ≤ b ∧ shlo a b c d e f m t % a = 0 ∧ shhi a b c d e f m t % a = 0 ∧
      cld a b c d e f m (shlo a b c d e f m t) t = true ∧ cld a b c d e f m (shhi a b c d e f m t) t = true ∧
      cld a b c d e f m (shlo a b c d e f m t - a) t = false ∧ cld a b c d e f m (shhi a b c d e f m t + a) t = false ∧ SV a b c d e f := by
  have he : errn a b c d e f m t = 0 := by
    by_cases he : errn a b c d e f m t = 0
    · exact he
    · simp [shn, he] at h0
  obtain ⟨hV, hm, hm', ht0, ht, hft⟩ := errn_ok.1 he
  have a1 := hV.a1
  obtain ⟨f1, f2, f3, f4⟩ := shLo_facts (b := b) a1 hV.b1 hm (bnd_bd hV hm hm' ht hft).1
  have hle : shLo a (bnd c d e f m t) m ≤ shHi a b (bnd c d e f m t) m := by
    simp only [shn, he, ne_eq, not_true_eq_false, if_false] at h0
    split at h0 <;> omega
  simp only [shlo, shhi, h0, if_true]
  refine ⟨f1, hle, f2, f3, f4, ?_, ?_, ?_, ?_, hV⟩
  · rw [cld_iff he, shw_iff]; omega
  · rw [cld_iff he, shw_iff]; omega
  · cases h : cld a b c d e f m (shLo a (bnd c d e f m t) m - a) t
    · rfl
    · have := ((cld_iff he).1 h).2; omega
  · cases h : cld a b c d e f m (shHi a b (bnd c d e f m t) m + a) t
    · rfl
    · have := ((cld_iff he).1 h).2; omega
/-- .. and with one. -/
theorem between_no {a b c d e f m n t : Int} (h0 : shn a b c d e f m t ≠ 0) : cld a b c d e f m n t = false := by
  by_cases he : errn a b c d e f m t = 0
  · cases h : cld a b c d e f m n t
    · rfl
    · have h1 := ((cld_iff he).1 h).2
      simp only [shn, he, ne_eq, not_true_eq_false, if_false] at h0
      split at h0 <;> omega
  · exact cld_no he

/-! ### Worse scales and later moments -/
theorem bnd_grows {c d e f m t c' d' e' t' : Int} (hc : c ≤ c') (hd : d ≤ d') (he0 : 0 ≤ e) (he : e ≤ e') (hm : 0 ≤ m) (hft : f ≤ t) (htt : t ≤ t') : bnd c d e f m t ≤ bnd c' d' e' f m t' := by
  have h1 : m * d ≤ m * d' := Int.mul_le_mul_of_nonneg_left hd hm
  have g0 : 0 ≤ begun f t := by unfold begun; omega
  have g1 : begun f t ≤ begun f t' := by unfold begun; omega
  have h2 : e * begun f t ≤ e' * begun f t' := Int.mul_le_mul he g1 g0 (by omega)
  unfold bnd
  omega
theorem near_grows {a c d e f m n t c' d' e' t' : Int} (hc : c ≤ c') (hd : d ≤ d') (he0 : 0 ≤ e) (he : e ≤ e') (hm : 0 ≤ m) (hft : f ≤ t) (htt : t ≤ t') (h : nearB a c d e f m n t = true) : nearB a c' d' e' f m n t' = true := by
  rw [nearB_iff] at *
  have := bnd_grows (f := f) hc hd he0 he hm hft htt
  omega
theorem grows_true {a b c d e f n t c' d' e' t' : Int} (hV : SV a b c' d' e' f) (hc : c ≤ c') (hd : d ≤ d') (he : e ≤ e') (htt : t ≤ t') (ht' : t' ≤ 3155759999) (h0 : trn a b c d e f n t = 0) :
    trn a b c' d' e' f n t' = 0 ∧ trlo a b c' d' e' f n t' ≤ trlo a b c d e f n t ∧ trhi a b c d e f n t ≤ trhi a b c' d' e' f n t' := by
  obtain ⟨hV0, hs, ht0, ht, hft⟩ := trn_ok.1 h0
  have h1 : trn a b c' d' e' f n t' = 0 := trn_ok.2 ⟨hV, hs, by omega, ht', by omega⟩
  obtain ⟨n1, n2⟩ := shw_bd hs
  have n3 : n ≤ 1073741824 := by have := hV.b2; omega
  simp only [trlo, trhi, h0, h1, if_true, true_and]
  obtain ⟨T1, T2, T3, T4, T5⟩ := tSpan_is (c := c) (e := e) hV0 n1 n3 ht hft
  obtain ⟨U1, U2, U3, U4, U5⟩ := tSpan_is (c := c') (e := e') hV n1 n3 ht' (by omega)
  have q1 := (U5 _ T1 (by omega)).1 (near_grows hc hd hV0.e1 he T1 hft htt ((T5 _ T1 (by omega)).2 (by omega)))
  have q2 := (U5 _ (by omega) T4).1 (near_grows hc hd hV0.e1 he (by omega) hft htt ((T5 _ (by omega) T4).2 (by omega)))
  omega
theorem grows_error {a b c d e f m t c' d' e' t' : Int} (hV : SV a b c' d' e' f) (hc : c ≤ c') (hd : d ≤ d') (he : e ≤ e') (htt : t ≤ t') (ht' : t' ≤ 3155759999) (h0 : errn a b c d e f m t = 0) :
    errn a b c' d' e' f m t' = 0 ∧ errv a b c d e f m t ≤ errv a b c' d' e' f m t' := by
  obtain ⟨hV0, hm, hm', ht0, ht, hft⟩ := errn_ok.1 h0
  have h1 : errn a b c' d' e' f m t' = 0 := errn_ok.2 ⟨hV, hm, hm', by omega, ht', by omega⟩
  simp only [errv, h0, h1, if_true, true_and]
  exact bnd_grows hc hd hV0.e1 he hm hft htt

end Go.Proofs.Ytapfihlfnaebhaa
