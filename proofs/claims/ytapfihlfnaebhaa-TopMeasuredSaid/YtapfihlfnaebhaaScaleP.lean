/- The plain arithmetic of scales: what a scale's error is, which numbers it can show for a mass, and which masses a number allows. No program in sight. -/
import Init
namespace Go.Proofs.Ytapfihlfnaebhaa
set_option linter.unusedVariables false
set_option linter.unusedSimpArgs false

def btw (a b c : Int) : Bool := decide (a ≤ b) && decide (b ≤ c)
def chk (a b c d e f : Int) : Int := if btw 1 a 10000 && btw a b 1073741824 && btw 0 c 100000 && btw 0 d 100 && btw 0 e 100000 && btw 0 f 3155759999 then 0 else 1

/-- A valid scale. -/
structure SV (a b c d e f : Int) : Prop where
  a1 : 1 ≤ a
  a2 : a ≤ 10000
  b1 : a ≤ b
  b2 : b ≤ 1073741824
  c1 : 0 ≤ c
  c2 : c ≤ 100000
  d1 : 0 ≤ d
  d2 : d ≤ 100
  e1 : 0 ≤ e
  e2 : e ≤ 100000
  f1 : 0 ≤ f
  f2 : f ≤ 3155759999

theorem chk_ok {a b c d e f : Int} : chk a b c d e f = 0 ↔ SV a b c d e f := by
  unfold chk btw
  constructor
  · intro h
    simp at h
    constructor <;> omega
  · rintro ⟨⟩
    simp
    omega
theorem chk_01 (a b c d e f : Int) : chk a b c d e f = 0 ∨ chk a b c d e f = 1 := by
  unfold chk; split <;> simp

def begun (f t : Int) : Int := (t - f + 86399) / 86400
def bnd (c d e f m t : Int) : Int := c + (m * d + 999) / 1000 + e * begun f t
def mom (a b c d e f t : Int) : Int := if chk a b c d e f ≠ 0 ∨ t < 0 ∨ t > 3155759999 then 1 else if t < f then 9 else 0
def errn (a b c d e f m t : Int) : Int := if chk a b c d e f ≠ 0 ∨ m < 0 ∨ m > 1073741824 ∨ t < 0 ∨ t > 3155759999 then 1 else if t < f then 9 else 0
def errv (a b c d e f m t : Int) : Int := if errn a b c d e f m t = 0 then bnd c d e f m t else 0
def shw (a b n : Int) : Bool := decide (0 ≤ n) && decide (n ≤ b) && (n % a == 0)
def nearB (a c d e f m n t : Int) : Bool := decide (2 * (m - n) ≤ 2 * bnd c d e f m t + a) && decide (2 * (n - m) ≤ 2 * bnd c d e f m t + a)
def cld (a b c d e f m n t : Int) : Bool := decide (errn a b c d e f m t = 0) && shw a b n && nearB a c d e f m n t

theorem begun_bd {f t : Int} (hf : 0 ≤ f) (hft : f ≤ t) (ht : t ≤ 3155759999) : 0 ≤ begun f t ∧ begun f t ≤ 36525 := by
  unfold begun; omega
theorem errn_ok {a b c d e f m t : Int} : errn a b c d e f m t = 0 ↔ SV a b c d e f ∧ 0 ≤ m ∧ m ≤ 1073741824 ∧ 0 ≤ t ∧ t ≤ 3155759999 ∧ f ≤ t := by
  unfold errn
  by_cases h : chk a b c d e f = 0
  · have := chk_ok.1 h
    simp only [h, this, true_and, ne_eq, not_true_eq_false, false_or]
    split
    · omega
    · split <;> omega
  · simp only [h, ne_eq, not_false_eq_true, true_or, if_true]
    simp only [Int.one_ne_zero, false_iff]
    exact fun hh => h (chk_ok.2 hh.1)

/-- What the arithmetic needs of a valid scale. -/
structure BD (c d e f m t : Int) : Prop where
  g1 : 0 ≤ begun f t
  g2 : begun f t ≤ 36525
  p0 : 0 ≤ m * d
  p1 : m * d ≤ 107374182400
  q0 : 0 ≤ e * begun f t
  q1 : e * begun f t ≤ 3652500000
theorem bd_of {a b c d e f m t : Int} (h : SV a b c d e f) (hm : 0 ≤ m) (hm' : m ≤ 1073741824) (ht : t ≤ 3155759999) (hft : f ≤ t) : BD c d e f m t := by
  obtain ⟨g1, g2⟩ := begun_bd h.f1 hft ht
  refine ⟨g1, g2, Int.mul_nonneg hm h.d1, ?_, Int.mul_nonneg h.e1 g1, ?_⟩
  · have := Int.mul_le_mul hm' h.d2 h.d1 (by omega); omega
  · have := Int.mul_le_mul h.e2 g2 g1 (by omega); omega
theorem bnd_bd {a b c d e f m t : Int} (h : SV a b c d e f) (hm : 0 ≤ m) (hm' : m ≤ 1073741824) (ht : t ≤ 3155759999) (hft : f ≤ t) : 0 ≤ bnd c d e f m t ∧ bnd c d e f m t ≤ 3860000000 := by
  obtain ⟨g1, g2, p0, p1, q0, q1⟩ := bd_of h hm hm' ht hft
  have := h.c1; have := h.c2
  unfold bnd
  omega


/-! ### The masses that a number allows -/

/-- The first place of lo .. hi at which p holds, or hi + 1 (p may be any condition: it holds there, and not one before). -/
def FirstIs (p : Int → Bool) (lo hi x : Int) : Prop := lo ≤ x ∧ x ≤ hi + 1 ∧ (lo < x → p (x - 1) = false) ∧ (x ≤ hi → p x = true)

theorem exists_first (p : Int → Bool) (k : Nat) : ∀ lo : Int, ∃ x, FirstIs p lo (lo + k - 1) x := by
  induction k with
  | zero => exact fun lo => ⟨lo, Int.le_refl _, by simp, fun h => absurd h (Int.lt_irrefl _), fun h => by simp at h; omega⟩
  | succ k ih =>
    intro lo
    by_cases h : p lo = true
    · exact ⟨lo, Int.le_refl _, by omega, fun h => absurd h (Int.lt_irrefl _), fun _ => h⟩
    · obtain ⟨x, h1, h2, h3, h4⟩ := ih (lo + 1)
      refine ⟨x, by omega, by omega, fun _ => ?_, fun hx => h4 (by omega)⟩
      by_cases he : lo + 1 < x
      · exact h3 he
      · have : x - 1 = lo := by omega
        rw [this]
        exact eq_false_of_ne_true h

theorem bnd_step {c d e f m t : Int} (d1 : 0 ≤ d) (d2 : d ≤ 100) : bnd c d e f m t ≤ bnd c d e f (m + 1) t ∧ bnd c d e f (m + 1) t ≤ bnd c d e f m t + 1 := by
  unfold bnd
  rw [Int.add_mul]
  omega
theorem bnd_mono {c d e f m t : Int} (d1 : 0 ≤ d) (d2 : d ≤ 100) (k : Nat) : bnd c d e f m t ≤ bnd c d e f (m + k) t ∧ bnd c d e f (m + k) t ≤ bnd c d e f m t + k := by
  induction k with
  | zero => simp
  | succ k ih =>
    have h := bnd_step (c := c) (e := e) (f := f) (m := m + k) (t := t) d1 d2
    have : m + ((k + 1 : Nat) : Int) = m + k + 1 := by omega
    rw [this]
    omega
theorem bnd_le {c d e f m m' t : Int} (d1 : 0 ≤ d) (d2 : d ≤ 100) (h : m ≤ m') : bnd c d e f m t ≤ bnd c d e f m' t ∧ bnd c d e f m' t ≤ bnd c d e f m t + (m' - m) := by
  obtain ⟨k, rfl⟩ : ∃ k : Nat, m' = m + k := ⟨(m' - m).toNat, by omega⟩
  have := bnd_mono (c := c) (e := e) (f := f) (m := m) (t := t) d1 d2 k
  omega

theorem nearB_iff {a c d e f m n t : Int} : nearB a c d e f m n t = true ↔ 2 * (m - n) ≤ 2 * bnd c d e f m t + a ∧ 2 * (n - m) ≤ 2 * bnd c d e f m t + a := by simp [nearB]

theorem near_up {a c d e f m m' n t : Int} (a1 : 1 ≤ a) (d1 : 0 ≤ d) (d2 : d ≤ 100) (h0 : 0 ≤ bnd c d e f m t) (hm : m ≤ m') (hn : m' ≤ n) (h : nearB a c d e f m n t = true) : nearB a c d e f m' n t = true := by
  rw [nearB_iff] at *
  have := bnd_le (c := c) (e := e) (f := f) (t := t) d1 d2 hm
  omega
theorem near_down {a c d e f m m' n t : Int} (a1 : 1 ≤ a) (d1 : 0 ≤ d) (d2 : d ≤ 100) (h0 : 0 ≤ bnd c d e f n t) (hm : m ≤ m') (hn : n ≤ m) (h : nearB a c d e f m' n t = true) : nearB a c d e f m n t = true := by
  rw [nearB_iff] at *
  have := bnd_le (c := c) (e := e) (f := f) (t := t) d1 d2 hm
  have := bnd_le (c := c) (e := e) (f := f) (t := t) d1 d2 hn
  omega
theorem near_self {a c d e f n t : Int} (a1 : 1 ≤ a) (h0 : 0 ≤ bnd c d e f n t) : nearB a c d e f n n t = true := by
  rw [nearB_iff]; omega

/-- lo .. hi are the masses for which the number n can be shown. -/
def TrueIs (a c d e f n t lo hi : Int) : Prop :=
  0 ≤ lo ∧ lo ≤ n ∧ n ≤ hi ∧ hi ≤ 1073741824 ∧ ∀ m, 0 ≤ m → m ≤ 1073741824 → (nearB a c d e f m n t = true ↔ lo ≤ m ∧ m ≤ hi)

theorem true_of_first {a b c d e f n t x y : Int} (hV : SV a b c d e f) (hn : 0 ≤ n) (hn' : n ≤ 1073741824) (ht : t ≤ 3155759999) (hft : f ≤ t)
    (hx : FirstIs (fun m => nearB a c d e f m n t) 0 n x) (hy : FirstIs (fun m => !nearB a c d e f m n t) n 1073741824 y) : TrueIs a c d e f n t x (y - 1) := by
  obtain ⟨x1, x2, x3, x4⟩ := hx
  obtain ⟨y1, y2, y3, y4⟩ := hy
  have hb : ∀ m, 0 ≤ m → m ≤ 1073741824 → 0 ≤ bnd c d e f m t := fun m h1 h2 => (bnd_bd hV h1 h2 ht hft).1
  have hs : nearB a c d e f n n t = true := near_self hV.a1 (hb n hn hn')
  have hxn : x ≤ n := by
    rcases Int.lt_or_le n x with h | h
    · have hxe : x - 1 = n := by omega
      have := x3 (by omega)
      simp only [hxe] at this
      rw [hs] at this
      cases this
    · exact h
  have hyn : n ≤ y - 1 := by
    rcases Int.lt_or_le (y - 1) n with h | h
    · have hye : y = n := by omega
      have := y4 (by omega)
      simp only [hye, hs] at this
      cases this
    · exact h
  refine ⟨x1, hxn, hyn, by omega, fun m h0 hM => ?_⟩
  have hx4 := x4 hxn
  have hy3 := y3 (by omega)
  simp only [Bool.not_eq_false'] at hy3
  constructor
  · intro hm
    constructor
    · rcases Int.lt_or_le m x with h | h
      · have := near_up (m' := x - 1) hV.a1 hV.d1 hV.d2 (hb m h0 hM) (by omega) (by omega) hm
        have hc := x3 (by omega)
        simp only [this] at hc
        cases hc
      · exact h
    · rcases Int.lt_or_le (y - 1) m with h | h
      · have := near_down (m := y) hV.a1 hV.d1 hV.d2 (hb n hn hn') (by omega) (by omega) hm
        have hc := y4 (by omega)
        simp only [this] at hc
        cases hc
      · exact h
  · rintro ⟨h1, h2⟩
    rcases Int.le_total m n with h | h
    · exact near_up hV.a1 hV.d1 hV.d2 (hb x x1 (by omega)) h1 h hx4
    · exact near_down hV.a1 hV.d1 hV.d2 (hb n hn hn') h2 h hy3

theorem true_exists {a b c d e f n t : Int} (hV : SV a b c d e f) (hn : 0 ≤ n) (hn' : n ≤ 1073741824) (ht : t ≤ 3155759999) (hft : f ≤ t) : ∃ lo hi, TrueIs a c d e f n t lo hi := by
  obtain ⟨x, hx⟩ := exists_first (fun m => nearB a c d e f m n t) (n + 1).toNat 0
  obtain ⟨y, hy⟩ := exists_first (fun m => !nearB a c d e f m n t) (1073741825 - n).toNat n
  have e1 : (0 : Int) + ((n + 1).toNat : Int) - 1 = n := by omega
  have e2 : n + ((1073741825 - n).toNat : Int) - 1 = 1073741824 := by omega
  rw [e1] at hx
  rw [e2] at hy
  exact ⟨x, y - 1, true_of_first hV hn hn' ht hft hx hy⟩

theorem true_unique {a c d e f n t lo hi lo' hi' : Int} (h : TrueIs a c d e f n t lo hi) (h' : TrueIs a c d e f n t lo' hi') : lo = lo' ∧ hi = hi' := by
  obtain ⟨a1, a2, a3, a4, a5⟩ := h
  obtain ⟨b1, b2, b3, b4, b5⟩ := h'
  have q1 := (a5 lo a1 (by omega)).symm.trans (b5 lo a1 (by omega))
  have q2 := (a5 lo' b1 (by omega)).symm.trans (b5 lo' b1 (by omega))
  have q3 := (a5 hi (by omega) a4).symm.trans (b5 hi (by omega) a4)
  have q4 := (a5 hi' (by omega) b4).symm.trans (b5 hi' (by omega) b4)
  omega

open Classical in
/-- The interval of the masses that a number allows, as a function. -/
noncomputable def tSpan (a c d e f n t : Int) : Int × Int := if h : ∃ p : Int × Int, TrueIs a c d e f n t p.1 p.2 then Classical.choose h else (0, 0)
noncomputable def tlo (a c d e f n t : Int) : Int := (tSpan a c d e f n t).1
noncomputable def thi (a c d e f n t : Int) : Int := (tSpan a c d e f n t).2
theorem tSpan_eq {a c d e f n t lo hi : Int} (h : TrueIs a c d e f n t lo hi) : tlo a c d e f n t = lo ∧ thi a c d e f n t = hi := by
  have hx : ∃ p : Int × Int, TrueIs a c d e f n t p.1 p.2 := ⟨(lo, hi), h⟩
  have := Classical.choose_spec hx
  have := true_unique this h
  simp only [tlo, thi, tSpan, hx, dite_true]
  exact this
theorem tSpan_is {a b c d e f n t : Int} (hV : SV a b c d e f) (hn : 0 ≤ n) (hn' : n ≤ 1073741824) (ht : t ≤ 3155759999) (hft : f ≤ t) : TrueIs a c d e f n t (tlo a c d e f n t) (thi a c d e f n t) := by
  obtain ⟨lo, hi, h⟩ := true_exists hV hn hn' ht hft
  obtain ⟨rfl, rfl⟩ := tSpan_eq h
  exact h

/-- The error of True. -/
def trn (a b c d e f n t : Int) : Int := if chk a b c d e f ≠ 0 ∨ shw a b n = false ∨ t < 0 ∨ t > 3155759999 then 1 else if t < f then 9 else 0
noncomputable def trlo (a b c d e f n t : Int) : Int := if trn a b c d e f n t = 0 then tlo a c d e f n t else 0
noncomputable def trhi (a b c d e f n t : Int) : Int := if trn a b c d e f n t = 0 then thi a c d e f n t else 0
theorem shw_bd {a b n : Int} (h : shw a b n = true) : 0 ≤ n ∧ n ≤ b := by
  simp [shw] at h
  omega
theorem trn_ok {a b c d e f n t : Int} : trn a b c d e f n t = 0 ↔ SV a b c d e f ∧ shw a b n = true ∧ 0 ≤ t ∧ t ≤ 3155759999 ∧ f ≤ t := by
  unfold trn
  by_cases h : chk a b c d e f = 0
  · have := chk_ok.1 h
    cases hs : shw a b n
    · simp
    · simp only [h, this, true_and, ne_eq, not_true_eq_false, false_or, Bool.true_eq_false, true_and]
      split
      · omega
      · split <;> omega
  · simp only [h, ne_eq, not_false_eq_true, true_or, if_true, Int.one_ne_zero, false_iff]
    exact fun hh => h (chk_ok.2 hh.1)

/-! ### The numbers that can be shown for a mass -/
def wid (a e : Int) : Int := (2 * e + a) / 2
def shLo (a e m : Int) : Int := ((if wid a e < m then m - wid a e else 0) + a - 1) / a * a
def shHi (a b e m : Int) : Int := (if m + wid a e < b then m + wid a e else b) / a * a
/-- The same as the reference computes it. -/
def rsLo (a e m : Int) : Int := ((if 2 * m - (2 * e + a) < 0 then 0 else 2 * m - (2 * e + a)) + 2 * a - 1) / (2 * a) * a
def rsHi (a b e m : Int) : Int := if (2 * m + (2 * e + a)) / (2 * a) * a > b / a * a then b / a * a else (2 * m + (2 * e + a)) / (2 * a) * a

theorem div2 (x a : Int) (ha : 1 ≤ a) : x / (2 * a) = x / 2 / a := by
  rw [Int.ediv_ediv_of_nonneg (by omega)]
theorem rsLo_eq (a e m : Int) (ha : 1 ≤ a) : rsLo a e m = shLo a e m := by
  unfold rsLo shLo
  rw [div2 _ _ ha]
  congr 2
  unfold wid
  split <;> split <;> omega
theorem ediv_mul_mono {x y a : Int} (ha : 1 ≤ a) (h : x ≤ y) : x / a * a ≤ y / a * a :=
  Int.mul_le_mul_of_nonneg_right (Int.ediv_le_ediv (by omega) h) (by omega)
theorem rsHi_eq (a b e m : Int) (ha : 1 ≤ a) : rsHi a b e m = shHi a b e m := by
  unfold rsHi shHi
  rw [div2 _ _ ha]
  have hw : (2 * m + (2 * e + a)) / 2 = m + wid a e := by unfold wid; omega
  rw [hw]
  rcases Int.lt_trichotomy (m + wid a e) b with h | h | h
  · have := ediv_mul_mono (x := m + wid a e) (y := b) ha (by omega)
    rw [if_neg (by omega), if_pos h]
  · rw [h, if_neg (by omega), if_neg (by omega)]
  · have := ediv_mul_mono (x := b) (y := m + wid a e) ha (by omega)
    rw [if_neg (c := m + wid a e < b) (by omega)]
    split <;> omega
/-- Division by a step, and back. -/
theorem dm {x a : Int} (hx : 0 ≤ x) (ha : 1 ≤ a) : 0 ≤ x / a ∧ x / a ≤ x ∧ 0 ≤ x / a * a ∧ x / a * a ≤ x := by
  have h0 := Int.ediv_nonneg hx (show 0 ≤ a by omega)
  refine ⟨h0, Int.ediv_le_self _ hx, Int.mul_nonneg h0 (by omega), Int.ediv_mul_le x (by omega)⟩

theorem dm2 {x a : Int} (hx : 0 ≤ x) (ha : 1 ≤ a) : 0 ≤ x / (2 * a) ∧ x / (2 * a) ≤ x ∧ 0 ≤ x / (2 * a) * a ∧ x / (2 * a) * a ≤ x := by
  have h0 := Int.ediv_nonneg hx (show 0 ≤ 2 * a by omega)
  have h1 := Int.ediv_mul_le x (show 2 * a ≠ 0 by omega)
  have h2 := Int.mul_nonneg h0 (show 0 ≤ a by omega)
  have h3 : x / (2 * a) * (2 * a) = 2 * (x / (2 * a) * a) := by rw [Int.mul_left_comm]
  refine ⟨h0, Int.ediv_le_self _ hx, h2, by omega⟩

def shn (a b c d e f m t : Int) : Int := if errn a b c d e f m t ≠ 0 then errn a b c d e f m t else if shLo a (bnd c d e f m t) m > shHi a b (bnd c d e f m t) m then 10 else 0
def shlo (a b c d e f m t : Int) : Int := if shn a b c d e f m t = 0 then shLo a (bnd c d e f m t) m else 0
def shhi (a b c d e f m t : Int) : Int := if shn a b c d e f m t = 0 then shHi a b (bnd c d e f m t) m else 0

end Go.Proofs.Ytapfihlfnaebhaa
