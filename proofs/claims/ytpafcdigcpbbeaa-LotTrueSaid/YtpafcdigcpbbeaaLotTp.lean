/- The plain law of LotTrue: lots made of numbers, each of what is left of the one before it. No program in sight. -/
import Derived.Test.YtpafcdigcpbbeaaLotS
namespace Go.Proofs.Ytpafcdigcpbbeaa
set_option linter.unusedVariables false
set_option linter.unusedSimpArgs false
open Go

structure Gv where
  mass : Int
  take : Int
  low : Int
  high : Int
  plow : Int
  phigh : Int
def gv0 : Gv := ⟨0, 0, 0, 0, 0, 0⟩
structure GvOk (g : Gv) : Prop where
  a : 0 ≤ g.mass ∧ g.mass ≤ 65535
  b : 0 ≤ g.take ∧ g.take ≤ 65535
  c : 0 ≤ g.low ∧ g.low ≤ 65535
  d : 0 ≤ g.high ∧ g.high ≤ 65535
  e : 0 ≤ g.plow ∧ g.plow ≤ 65535
  f : 0 ≤ g.phigh ∧ g.phigh ≤ 65535
/-- The true mass of a lot when it is made. -/
def mG (gs : List Gv) : Nat → Int
  | 0 => (gs.getD 0 gv0).mass
  | i + 1 => if mG gs i > 0 then (gs.getD (i + 1) gv0).take % mG gs i + 1 else (gs.getD (i + 1) gv0).mass
/-- Whether a lot is made of the one before it. -/
def hasP (gs : List Gv) (i : Nat) : Prop := 0 < i ∧ mG gs (i - 1) > 0
instance (gs : List Gv) (i : Nat) : Decidable (hasP gs i) := by unfold hasP; infer_instance
def max0 (x : Int) : Int := if x < 0 then 0 else x
def ptG (gs : List Gv) (i : Nat) : Pt := ⟨i, max0 (mG gs i - (gs.getD i gv0).plow), mG gs i + (gs.getD i gv0).phigh⟩
def partsG (gs : List Gv) (i : Nat) : List Pt := if hasP gs i then [ptG gs i] else []
def lotG (gs : List Gv) (pvs : Nat → Value) (i : Nat) : Lv := ⟨i + 1, 0, max0 (mG gs i - (gs.getD i gv0).low), mG gs i + (gs.getD i gv0).high, pvs i, partsG gs i⟩
def LG (gs : List Gv) (pvs : Nat → Value) (k : Nat) : List Lv := (List.range k).map (lotG gs pvs)
/-- What is left of lot j when k lots are made. -/
def rG (gs : List Gv) (k j : Nat) : Int := if j + 1 < k ∧ mG gs j > 0 then mG gs j - mG gs (j + 1) else mG gs j
def RG (gs : List Gv) (k : Nat) : List Int := (List.range k).map (rG gs k)
theorem max0_bd (x : Int) : 0 ≤ max0 x ∧ x ≤ max0 x ∧ (0 ≤ x → max0 x = x) ∧ (x ≤ 0 → max0 x = 0) := by unfold max0; split <;> omega
section
variable {gs : List Gv} {pvs : Nat → Value}
theorem gv_ok (h : ∀ g ∈ gs, GvOk g) (i : Nat) : GvOk (gs.getD i gv0) := by
  by_cases hi : i < gs.length
  · rw [List.getD_eq_getElem?_getD, List.getElem?_eq_getElem hi]
    exact h _ (List.getElem_mem hi)
  · rw [List.getD_eq_getElem?_getD, List.getElem?_eq_none (by omega)]
    exact ⟨by simp [gv0], by simp [gv0], by simp [gv0], by simp [gv0], by simp [gv0], by simp [gv0]⟩
theorem mG_bd (h : ∀ g ∈ gs, GvOk g) : ∀ i, 0 ≤ mG gs i ∧ mG gs i ≤ 65535
  | 0 => (gv_ok h 0).a
  | i + 1 => by
    have ih := mG_bd h i
    unfold mG
    split
    · rename_i h1
      have := Int.emod_nonneg (gs.getD (i + 1) gv0).take (show mG gs i ≠ 0 by omega)
      have := Int.emod_lt_of_pos (gs.getD (i + 1) gv0).take h1
      omega
    · exact (gv_ok h (i + 1)).a
theorem mG_take (i : Nat) (hp : mG gs i > 0) : mG gs (i + 1) = (gs.getD (i + 1) gv0).take % mG gs i + 1 ∧ 1 ≤ mG gs (i + 1) ∧ mG gs (i + 1) ≤ mG gs i := by
  have e : mG gs (i + 1) = (gs.getD (i + 1) gv0).take % mG gs i + 1 := by
    rw [mG, if_pos hp]
  have := Int.emod_nonneg (gs.getD (i + 1) gv0).take (show mG gs i ≠ 0 by omega)
  have := Int.emod_lt_of_pos (gs.getD (i + 1) gv0).take hp
  exact ⟨e, by omega, by omega⟩
theorem LG_len (k : Nat) : (LG gs pvs k).length = k := by simp [LG]
theorem LG_at {k i : Nat} (h : i < k) : (LG gs pvs k).getD i lv0 = lotG gs pvs i := by
  rw [List.getD_eq_getElem?_getD]; simp [LG, h]
theorem LG_succ (k : Nat) : LG gs pvs (k + 1) = LG gs pvs k ++ [lotG gs pvs k] := by unfold LG; rw [List.range_succ, List.map_append]; rfl
theorem LG_congr {qvs : Nat → Value} {k : Nat} (h : ∀ i, i < k → pvs i = qvs i) : LG gs pvs k = LG gs qvs k := by
  unfold LG
  refine List.map_congr_left fun i hi => ?_
  unfold lotG
  rw [h i (List.mem_range.1 hi)]
theorem LG_take {n k : Nat} (h : k ≤ n) : (LG gs pvs n).take k = LG gs pvs k := by
  unfold LG
  rw [← List.map_take, List.take_range, Nat.min_eq_left h]
theorem RG_len (k : Nat) : (RG gs k).length = k := by simp [RG]
theorem RG_at {k i : Nat} (h : i < k) : (RG gs k).getD i 0 = rG gs k i := by
  rw [List.getD_eq_getElem?_getD]; simp [RG, h]
theorem RG_last {k : Nat} : (RG gs (k + 1)).getD k 0 = mG gs k := by
  rw [RG_at (by omega)]
  unfold rG
  rw [if_neg (by omega)]
theorem RG_succ (k : Nat) : RG gs (k + 1) = (if hasP gs k then (RG gs k).set (k - 1) (mG gs (k - 1) - mG gs k) else RG gs k) ++ [mG gs k] := by
  refine List.ext_getElem? fun i => ?_
  by_cases hi : i < k
  · rw [List.getElem?_append_left (by split <;> simp [RG_len, hi])]
    have e1 : (RG gs (k + 1))[i]? = some (rG gs (k + 1) i) := by simp [RG, show i < k + 1 by omega]
    have e2 : (RG gs k)[i]? = some (rG gs k i) := by simp [RG, hi]
    rw [e1]
    by_cases hp : hasP gs k
    · rw [if_pos hp]
      by_cases hk : i = k - 1
      · subst hk
        rw [List.getElem?_set_self (by rw [RG_len]; exact hi)]
        unfold rG
        rw [if_pos ⟨by omega, hp.2⟩, show k - 1 + 1 = k by omega]
      · rw [List.getElem?_set_ne (by omega), e2]
        unfold rG
        by_cases hm : mG gs i > 0
        · rw [if_pos ⟨by omega, hm⟩, if_pos ⟨by omega, hm⟩]
        · rw [if_neg (fun h => hm h.2), if_neg (fun h => hm h.2)]
    · rw [if_neg hp, e2]
      unfold rG
      by_cases hm : mG gs i > 0
      · have : i ≠ k - 1 := fun e => hp ⟨by omega, e ▸ hm⟩
        rw [if_pos ⟨by omega, hm⟩, if_pos ⟨by omega, hm⟩]
      · rw [if_neg (fun h => hm h.2), if_neg (fun h => hm h.2)]
  · by_cases hk : i = k
    · subst hk
      rw [List.getElem?_append_right (by split <;> simp [RG_len])]
      have : ∀ l : List Int, l.length = i → i - l.length = 0 := fun l h => by omega
      rw [this _ (by split <;> simp [RG_len])]
      have e1 : (RG gs (i + 1))[i]? = some (rG gs (i + 1) i) := by simp [RG]
      rw [e1]
      unfold rG
      rw [if_neg (by omega)]
      rfl
    · rw [List.getElem?_eq_none (by rw [RG_len]; omega), List.getElem?_eq_none (by split <;> simp [RG_len] <;> omega)]

/-! ### The lots are valid -/
theorem LG_kn {n k : Nat} (hk : k ≤ n) (y : Int) : (kn (LG gs pvs n) k y).isSome = true ↔ 1 ≤ y ∧ y ≤ k := by
  rw [kn_some]
  constructor
  · rintro ⟨j, h1, h2⟩
    rw [LG_at (by omega)] at h2
    unfold lotG at h2
    dsimp only at h2
    omega
  · rintro ⟨h1, h2⟩
    refine ⟨(y - 1).toNat, by omega, ?_⟩
    rw [LG_at (by omega)]
    unfold lotG
    dsimp only
    omega
theorem part_mem {i : Nat} {p : Pt} (h : p ∈ partsG gs i) : hasP gs i ∧ p = ptG gs i := by
  unfold partsG at h
  split at h
  · rename_i h1; exact ⟨h1, by simpa using h⟩
  · simp at h
theorem lotG_one (h : ∀ g ∈ gs, GvOk g) {K : Int → Bool} {i : Nat} (hi : i < 60) (hK : ∀ y : Int, 1 ≤ y → y ≤ i → K y = true) : oneE K (lotG gs pvs i) = 0 := by
  have hg := gv_ok h i
  have hm := mG_bd h i
  obtain ⟨b1, b2, b3, b4⟩ := max0_bd (mG gs i - (gs.getD i gv0).low)
  obtain ⟨c1, c2, c3, c4⟩ := max0_bd (mG gs i - (gs.getD i gv0).plow)
  obtain ⟨_, _, g3, g4, g5, g6⟩ := hg
  have hlo : max0 (mG gs i - (gs.getD i gv0).low) ≤ mG gs i := by
    by_cases e : mG gs i - (gs.getD i gv0).low < 0
    · rw [b4 (by omega)]; omega
    · rw [b3 (by omega)]; omega
  have hpl : max0 (mG gs i - (gs.getD i gv0).plow) ≤ mG gs i := by
    by_cases e : mG gs i - (gs.getD i gv0).plow < 0
    · rw [c4 (by omega)]; omega
    · rw [c3 (by omega)]; omega
  have h1 : headE (lotG gs pvs i) = 0 := by
    unfold headE lotG
    dsimp only
    rw [if_neg (by omega), if_neg (by omega), mOk_iff.2 ⟨by omega, by omega, by omega⟩, if_neg (by simp), if_neg (by unfold partsG; split <;> simp)]
  have h2 : firstE (ptE K) (lotG gs pvs i).parts = 0 := firstE_zero fun p hp => by
    obtain ⟨hp1, rfl⟩ := part_mem (show p ∈ partsG gs i from hp)
    rw [ptE_ok]
    exact ⟨hK _ (by have := hp1.1; show (1 : Int) ≤ (i : Int); omega) (by show (i : Int) ≤ i; omega), mOk_iff.2 ⟨c1, by show max0 _ ≤ _; unfold ptG; dsimp only; omega, by unfold ptG; dsimp only; omega⟩⟩
  unfold oneE
  rw [h1, if_neg (by simp), h2, if_neg (by simp)]
  show (if dupP (partsG gs i) (partsG gs i).length = true then 6 else balE (lotG gs pvs i)) = 0
  have h3 : dupP (partsG gs i) (partsG gs i).length = false := by unfold partsG; split <;> rfl
  rw [h3, if_neg (by simp)]
  unfold balE lotG
  dsimp only
  by_cases hp : hasP gs i
  · have e : partsG gs i = [ptG gs i] := if_pos hp
    have s1 : sumLo [ptG gs i] = max0 (mG gs i - (gs.getD i gv0).plow) := by simp [sumLo, ptG]
    have s2 : sumHi [ptG gs i] = mG gs i + (gs.getD i gv0).phigh := by simp [sumHi, ptG]
    rw [e, s1, s2, if_neg (by omega)]
  · have e : partsG gs i = [] := if_neg hp
    rw [e, if_neg (by simp)]
theorem LG_lots (h : ∀ g ∈ gs, GvOk g) {n : Nat} (hn : n ≤ 60) : ∀ k, k ≤ n → lotsE (LG gs pvs n) k = 0
  | 0, _ => rfl
  | k + 1, hk => by
    unfold lotsE
    rw [LG_lots h hn k (by omega), if_neg (by simp), LG_at (by omega)]
    exact lotG_one h (by omega) fun y h1 h2 => (LG_kn (by omega) y).2 ⟨h1, h2⟩
theorem LG_nodup {n : Nat} : ∀ k, k ≤ n → nodup (LG gs pvs n) k = true
  | 0, _ => rfl
  | k + 1, hk => by
    unfold nodup
    rw [LG_nodup k (by omega), Bool.true_and, LG_at (by omega)]
    have : ¬ (kn (LG gs pvs n) k (lotG gs pvs k).id).isSome = true := fun h => by
      have := (LG_kn (by omega) _).1 h
      unfold lotG at this
      dsimp only at this
      omega
    simpa using this
/-- What is taken from lot j. -/
def tkG (gs : List Gv) (k : Nat) (y : Int) : Sp := if 0 < y ∧ y < k ∧ hasP gs y.toNat then ⟨(ptG gs y.toNat).lo, (ptG gs y.toNat).hi⟩ else sp0
theorem LG_tk {n : Nat} (y : Int) : ∀ k, k ≤ n → tk ((LG gs pvs n).take k) y = tkG gs k y
  | 0, _ => by
    unfold tkG
    rw [if_neg (by omega)]; rfl
  | k + 1, hk => by
    have ih := LG_tk (n := n) y k (by omega)
    have hx : (LG gs pvs n)[k]? = some (lotG gs pvs k) := by simp [LG, show k < n by omega]
    rw [tk_take y hx, ih]
    show tkP y (tkG gs k y) (partsG gs k) = _
    unfold partsG
    by_cases hp : hasP gs k
    · rw [if_pos hp]
      show addP y (tkG gs k y) (ptG gs k) = _
      unfold addP
      by_cases e : (ptG gs k).lot = y
      · have ey : (k : Int) = y := e
        subst ey
        rw [if_pos (show (ptG gs k).lot = (k : Int) from rfl)]
        have e0 : tkG gs k k = sp0 := by unfold tkG; rw [if_neg (by omega)]
        rw [e0]
        unfold tkG
        rw [Int.toNat_natCast, if_pos ⟨by have := hp.1; omega, by omega, hp⟩]
        simp [sp0]
      · have ey : (k : Int) ≠ y := e
        rw [if_neg e]
        unfold tkG
        by_cases h : 0 < y ∧ y < k ∧ hasP gs y.toNat
        · rw [if_pos h, if_pos ⟨h.1, by omega, h.2.2⟩]
        · rw [if_neg h, if_neg fun hh => h ⟨hh.1, by omega, hh.2.2⟩]
    · rw [if_neg hp]
      show tkG gs k y = _
      unfold tkG
      by_cases h : 0 < y ∧ y < k ∧ hasP gs y.toNat
      · rw [if_pos h, if_pos ⟨h.1, by omega, h.2.2⟩]
      · rw [if_neg h, if_neg fun hh => by
          by_cases e : y = k
          · subst e; rw [Int.toNat_natCast] at hh; exact hp hh.2.2
          · exact h ⟨hh.1, by omega, hh.2.2⟩]
theorem LG_tkn {n : Nat} (y : Int) : tk (LG gs pvs n) y = tkG gs n y := by
  have := LG_tk (gs := gs) (pvs := pvs) (n := n) y n (Nat.le_refl _)
  rwa [List.take_of_length_le (by rw [LG_len]; exact Nat.le_refl _)] at this
/-- What is taken from lot i, where something is. -/
theorem tkG_at (h : ∀ g ∈ gs, GvOk g) {n i : Nat} (hi : i < n) : 0 ≤ (tkG gs n (i + 1)).lo ∧ (tkG gs n (i + 1)).lo ≤ mG gs i - rG gs n i ∧ mG gs i - rG gs n i ≤ (tkG gs n (i + 1)).hi ∧ 0 ≤ rG gs n i := by
  have hm := mG_bd h i
  unfold tkG rG
  by_cases hc : i + 1 < n ∧ mG gs i > 0
  · obtain ⟨e, h1, h2⟩ := mG_take i hc.2
    have hg := gv_ok h (i + 1)
    obtain ⟨c1, c2, c3, c4⟩ := max0_bd (mG gs (i + 1) - (gs.getD (i + 1) gv0).plow)
    obtain ⟨_, _, _, _, g5, g6⟩ := hg
    have hpl : max0 (mG gs (i + 1) - (gs.getD (i + 1) gv0).plow) ≤ mG gs (i + 1) := by
      by_cases e : mG gs (i + 1) - (gs.getD (i + 1) gv0).plow < 0
      · rw [c4 (by omega)]; omega
      · rw [c3 (by omega)]; omega
    have ht : ((i : Int) + 1).toNat = i + 1 := by omega
    rw [if_pos hc, ht, if_pos ⟨by omega, by omega, ⟨by omega, hc.2⟩⟩]
    unfold ptG
    dsimp only
    omega
  · rw [if_neg hc]
    have ht : ((i : Int) + 1).toNat = i + 1 := by omega
    rw [ht, if_neg fun hh => hc ⟨by omega, hh.2.2.2⟩]
    simp only [sp0]
    omega
theorem lotG_bd (h : ∀ g ∈ gs, GvOk g) (i : Nat) : (lotG gs pvs i).lo ≤ mG gs i ∧ mG gs i ≤ (lotG gs pvs i).hi ∧ 0 ≤ (lotG gs pvs i).lo := by
  have hg := gv_ok h i
  have hm := mG_bd h i
  obtain ⟨b1, b2, b3, b4⟩ := max0_bd (mG gs i - (gs.getD i gv0).low)
  obtain ⟨_, _, g3, g4, _, _⟩ := hg
  unfold lotG
  dsimp only
  refine ⟨?_, by omega, b1⟩
  by_cases e : mG gs i - (gs.getD i gv0).low < 0
  · rw [b4 (by omega)]; omega
  · rw [b3 (by omega)]; omega
theorem LG_over (h : ∀ g ∈ gs, GvOk g) {n : Nat} : ∀ k, k ≤ n → overE (LG gs pvs n) k = 0
  | 0, _ => rfl
  | k + 1, hk => by
    unfold overE
    have h1 := tkG_at h (n := n) (i := k) (by omega)
    have h2 := lotG_bd (pvs := pvs) h k
    have h3 : 0 ≤ rG gs n k := h1.2.2.2
    rw [LG_over h k (by omega), if_neg (by simp), LG_at (by omega), LG_tkn]
    rw [if_neg]
    show ¬ (tkG gs n ((k : Int) + 1)).lo > (lotG gs pvs k).hi
    omega
theorem LG_chk (h : ∀ g ∈ gs, GvOk g) {n : Nat} (hn : n ≤ 60) : chkL (LG gs pvs n) = 0 := by
  unfold chkL
  rw [LG_len, if_neg (by omega), LG_lots h hn _ (Nat.le_refl _), if_neg (by simp), LG_nodup _ (Nat.le_refl _), if_neg (by simp), LG_over h _ (Nat.le_refl _)]
theorem LG_left (h : ∀ g ∈ gs, GvOk g) {n i : Nat} (hn : n ≤ 60) (hi : i < n) : lefE (LG gs pvs n) ((i : Int) + 1) = 0 ∧ (lefS (LG gs pvs n) ((i : Int) + 1)).lo ≤ rG gs n i ∧ rG gs n i ≤ (lefS (LG gs pvs n) ((i : Int) + 1)).hi := by
  have hc := LG_chk (pvs := pvs) h hn
  have hid : (lotG gs pvs i).id = (i : Int) + 1 := rfl
  have hkn : kn (LG gs pvs n) (LG gs pvs n).length ((i : Int) + 1) = some (i : Int) := by
    have := kn_uniq (l := LG gs pvs n) (k := n) (j := i) (LG_nodup n (Nat.le_refl _)) hi
    rw [LG_at hi, hid] at this
    rw [LG_len]; exact this
  have he : lefE (LG gs pvs n) ((i : Int) + 1) = 0 := by
    unfold lefE
    rw [if_neg (by simpa using hc), hkn, if_neg (by simp)]
  refine ⟨he, ?_⟩
  unfold lefS
  rw [if_pos he, hkn]
  simp only [Option.getD_some, Int.toNat_natCast]
  rw [LG_at hi, LG_tkn]
  have h1 := tkG_at h (n := n) (i := i) hi
  have h2 := lotG_bd (pvs := pvs) h i
  unfold restS
  dsimp only
  split <;> omega
end

end Go.Proofs.Ytpafcdigcpbbeaa
