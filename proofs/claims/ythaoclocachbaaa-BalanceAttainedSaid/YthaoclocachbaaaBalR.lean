/- The plain law of tightened intervals: Hoffman's condition over sets of bits, and ranges of masses. No program in sight. -/
import Derived.Test.YthaoclocachbaaaBalQ
namespace Go.Proofs.Ythaoclocachbaaa
set_option linter.unusedVariables false
set_option linter.unusedSimpArgs false

/-! ### Sets of nodes as numbers -/
def inB (set v : Nat) : Bool := set.testBit v
theorem set_of : ∀ (m : Nat) (T : Nat → Bool), ∃ set, set < 2 ^ m ∧ ∀ v, v < m → inB set v = T v
  | 0, T => ⟨0, by simp, fun v hv => absurd hv (Nat.not_lt_zero _)⟩
  | m + 1, T => by
    obtain ⟨s, hs, hv⟩ := set_of m fun v => T (v + 1)
    refine ⟨2 * s + (if T 0 = true then 1 else 0), ?_, fun v hlt => ?_⟩
    · rw [Nat.pow_succ]; split <;> omega
    · unfold inB at *
      cases v with
      | zero =>
        rw [Nat.testBit_zero]
        cases T 0 <;> simp <;> omega
      | succ v =>
        rw [Nat.testBit_succ]
        have : (2 * s + (if T 0 = true then 1 else 0)) / 2 = s := by split <;> omega
        rw [this]
        exact hv v (by omega)
theorem roomOf_congr {n : Nat} {T U : Nat → Bool} (h : ∀ v, v ≤ n → T v = U v) : ∀ {l : List Ed}, (∀ e ∈ l, e.u ≤ n ∧ e.v ≤ n) → roomOf T l = roomOf U l
  | [], _ => rfl
  | e :: l, hl => by
    obtain ⟨b1, b2⟩ := hl e (by simp)
    simp only [roomOf, h e.u b1, h e.v b2]
    rw [roomOf_congr h (l := l) fun x hx => hl x (List.mem_cons_of_mem _ hx)]

/-! ### The reference's arcs -/
def pairEds (n : Nat) (o c : List Sp) : Nat → List Ed
  | 0 => []
  | k + 1 => pairEds n o c k ++ [⟨n, k, (o.getD k sp0).lo, (o.getD k sp0).hi⟩, ⟨k, n, (c.getD k sp0).lo, (c.getD k sp0).hi⟩]
def arcsL (n : Nat) (o : List Sp) (l : List Tr) (c : List Sp) : List Ed := l.map trEd ++ pairEds n o c n
theorem room_pairs (T : Nat → Bool) (n : Nat) (o c : List Sp) : ∀ k, roomOf T (pairEds n o c k) = roomOf T (openEds n o k) + roomOf T (closeEds n c k)
  | 0 => rfl
  | k + 1 => by
    rw [pairEds, openEds, closeEds, roomOf_append, roomOf_append, roomOf_append, room_pairs T n o c k]
    unfold closeEd sh
    by_cases hs : (c.getD k sp0).lo < 0
    · rw [if_pos hs, if_pos hs]
      simp only [roomOf]
      cases T n <;> cases T k <;> simp <;> omega
    · rw [if_neg hs, if_neg hs]
      simp only [roomOf]
      cases T n <;> cases T k <;> simp <;> omega
theorem room_same (T : Nat → Bool) (n : Nat) (o : List Sp) (l : List Tr) (c : List Sp) : roomOf T (arcsL n o l c) = roomOf T (edgesL n o l c) := by
  unfold arcsL edgesL
  rw [roomOf_append, roomOf_append, roomOf_append, room_pairs]
  omega
/-- Hoffman's condition for all sets below a number. -/
def feasTo (L : List Ed) : Nat → Bool
  | 0 => true
  | k + 1 => feasTo L k && decide (0 ≤ roomOf (inB k) L)
theorem feasTo_iff {L : List Ed} : ∀ {k : Nat}, feasTo L k = true ↔ ∀ s, s < k → 0 ≤ roomOf (inB s) L
  | 0 => by simp [feasTo]
  | k + 1 => by
    simp only [feasTo, Bool.and_eq_true, decide_eq_true_eq, feasTo_iff (k := k)]
    constructor
    · rintro ⟨h1, h2⟩ s hs
      by_cases he : s = k
      · subst he; exact h2
      · exact h1 s (by omega)
    · exact fun h => ⟨fun s hs => h s (by omega), h k (by omega)⟩
def feasB (n : Nat) (o : List Sp) (l : List Tr) (c : List Sp) : Bool := feasTo (arcsL n o l c) (2 ^ (n + 1))
theorem feas_iff {n : Nat} {o : List Sp} {l : List Tr} {c : List Sp} (hok : ∀ e ∈ edgesL n o l c, EdOk n e) : feasB n o l c = true ↔ ∀ T : Nat → Bool, 0 ≤ roomOf T (edgesL n o l c) := by
  unfold feasB
  rw [feasTo_iff]
  constructor
  · intro h T
    obtain ⟨s, hs, hv⟩ := set_of (n + 1) T
    have := h s hs
    rw [room_same] at this
    rwa [roomOf_congr (n := n) (T := T) (U := inB s) (fun v hv2 => (hv v (by omega)).symm) fun e he => ⟨(hok e he).u, (hok e he).v⟩]
  · intro h s _
    rw [room_same]
    exact h _
theorem feas_circ {n : Nat} {o : List Sp} {l : List Tr} {c : List Sp} (hok : ∀ e ∈ edgesL n o l c, EdOk n e) : feasB n o l c = true ↔ ∃ xs, Circ n (edgesL n o l c) xs := by
  rw [feas_iff hok]
  exact ⟨fun h => hoffman hok h, fun ⟨xs, h⟩ T => circ_room hok h T⟩

/-! ### The range of a transfer -/
def tLo (L : List Ed) (t : Tr) : Nat → Int
  | 0 => t.mass.lo
  | k + 1 => if inB k t.frm.toNat = false ∧ inB k t.to.toNat = true then (if tLo L t k ≤ t.mass.hi - roomOf (inB k) L then t.mass.hi - roomOf (inB k) L else tLo L t k) else tLo L t k
def tHi (L : List Ed) (t : Tr) : Nat → Int
  | 0 => t.mass.hi
  | k + 1 => if inB k t.frm.toNat = true ∧ inB k t.to.toNat = false then (if tHi L t k ≤ t.mass.lo + roomOf (inB k) L then tHi L t k else t.mass.lo + roomOf (inB k) L) else tHi L t k
theorem tLo_iff {L : List Ed} {t : Tr} {m : Int} : ∀ {k : Nat}, tLo L t k ≤ m ↔ t.mass.lo ≤ m ∧ ∀ s, s < k → inB s t.frm.toNat = false → inB s t.to.toNat = true → t.mass.hi - roomOf (inB s) L ≤ m
  | 0 => by simp [tLo]
  | k + 1 => by
    have ih := tLo_iff (L := L) (t := t) (m := m) (k := k)
    have split : (∀ s, s < k + 1 → inB s t.frm.toNat = false → inB s t.to.toNat = true → t.mass.hi - roomOf (inB s) L ≤ m) ↔
        (∀ s, s < k → inB s t.frm.toNat = false → inB s t.to.toNat = true → t.mass.hi - roomOf (inB s) L ≤ m) ∧ (inB k t.frm.toNat = false → inB k t.to.toNat = true → t.mass.hi - roomOf (inB k) L ≤ m) := by
      constructor
      · exact fun h => ⟨fun s hs => h s (by omega), h k (by omega)⟩
      · rintro ⟨h1, h2⟩ s hs
        by_cases he : s = k
        · subst he; exact h2
        · exact h1 s (by omega)
    rw [split, ← and_assoc, ← ih, tLo]
    by_cases hc : inB k t.frm.toNat = false ∧ inB k t.to.toNat = true
    · rw [if_pos hc]
      simp only [hc.1, hc.2, true_implies, forall_const]
      (repeat' split) <;> omega
    · rw [if_neg hc]
      constructor
      · exact fun h => ⟨h, fun h1 h2 => absurd ⟨h1, h2⟩ hc⟩
      · exact fun h => h.1
theorem tHi_iff {L : List Ed} {t : Tr} {m : Int} : ∀ {k : Nat}, m ≤ tHi L t k ↔ m ≤ t.mass.hi ∧ ∀ s, s < k → inB s t.frm.toNat = true → inB s t.to.toNat = false → m ≤ t.mass.lo + roomOf (inB s) L
  | 0 => by simp [tHi]
  | k + 1 => by
    have ih := tHi_iff (L := L) (t := t) (m := m) (k := k)
    have split : (∀ s, s < k + 1 → inB s t.frm.toNat = true → inB s t.to.toNat = false → m ≤ t.mass.lo + roomOf (inB s) L) ↔
        (∀ s, s < k → inB s t.frm.toNat = true → inB s t.to.toNat = false → m ≤ t.mass.lo + roomOf (inB s) L) ∧ (inB k t.frm.toNat = true → inB k t.to.toNat = false → m ≤ t.mass.lo + roomOf (inB k) L) := by
      constructor
      · exact fun h => ⟨fun s hs => h s (by omega), h k (by omega)⟩
      · rintro ⟨h1, h2⟩ s hs
        by_cases he : s = k
        · subst he; exact h2
        · exact h1 s (by omega)
    rw [split, ← and_assoc, ← ih, tHi]
    by_cases hc : inB k t.frm.toNat = true ∧ inB k t.to.toNat = false
    · rw [if_pos hc]
      simp only [hc.1, hc.2, true_implies, forall_const]
      (repeat' split) <;> omega
    · rw [if_neg hc]
      constructor
      · exact fun h => ⟨h, fun h1 h2 => absurd ⟨h1, h2⟩ hc⟩
      · exact fun h => h.1

/-- A transfer with other bounds. -/
def withB (t : Tr) (a b : Int) : Tr := ⟨t.frm, t.to, ⟨a, b⟩⟩
theorem room_set (T : Nat → Bool) (a b : Int) : ∀ (l : List Tr) (k : Nat) (t : Tr), l[k]? = some t →
    roomOf T ((l.set k (withB t a b)).map trEd) = roomOf T (l.map trEd) + (if T t.frm.toNat = false ∧ T t.to.toNat = true then b - t.mass.hi else 0) - (if T t.frm.toNat = true ∧ T t.to.toNat = false then a - t.mass.lo else 0)
  | [], k, t, h => by simp at h
  | x :: l, 0, t, h => by
    obtain rfl : x = t := by simpa using h
    simp only [List.set_cons_zero, List.map_cons, roomOf, trEd, withB]
    (repeat' split) <;> omega
  | x :: l, k + 1, t, h => by
    have := room_set T a b l k t (by simpa using h)
    simp only [List.set_cons_succ, List.map_cons, roomOf, this]
    omega
theorem edges_set (n : Nat) (o : List Sp) (l : List Tr) (c : List Sp) (T : Nat → Bool) {k : Nat} {t : Tr} (a b : Int) (h : l[k]? = some t) :
    roomOf T (edgesL n o (l.set k (withB t a b)) c) = roomOf T (edgesL n o l c) + (if T t.frm.toNat = false ∧ T t.to.toNat = true then b - t.mass.hi else 0) - (if T t.frm.toNat = true ∧ T t.to.toNat = false then a - t.mass.lo else 0) := by
  unfold edgesL
  rw [roomOf_append, roomOf_append, roomOf_append, roomOf_append, room_set T a b l k t h]
  omega
theorem mem_set {l : List Tr} {k : Nat} {t u : Tr} (h : u ∈ l.set k t) : u = t ∨ u ∈ l := by
  rcases List.mem_or_eq_of_mem_set h with h | h
  · exact .inr h
  · exact .inl h
theorem bok_set {n : Int} {o : List Sp} {l : List Tr} (hB : BOk n o l) {k : Nat} {t : Tr} {a b : Int} (h : l[k]? = some t) (h0 : 0 ≤ a) (hab : a ≤ b) (hb : b ≤ 70368744177664) : BOk n o (l.set k (withB t a b)) := by
  refine ⟨hB.n1, hB.n8, hB.len, hB.op, by simpa using hB.few, fun u hu => ?_⟩
  rcases mem_set hu with rfl | hu
  · obtain ⟨a1, a2, a3, a4, a5, _⟩ := trE_iff.1 (hB.tr t (List.mem_of_getElem? h))
    exact trE_iff.2 ⟨a1, a2, a3, a4, a5, opOk_iff.2 ⟨h0, hab, hb⟩⟩
  · exact hB.tr u hu
def tightAt (n : Nat) (o : List Sp) (l : List Tr) (c : List Sp) (t : Tr) : Sp := ⟨tLo (arcsL n o l c) t (2 ^ (n + 1)), tHi (arcsL n o l c) t (2 ^ (n + 1))⟩
def tightL (n : Nat) (o : List Sp) (l : List Tr) (c : List Sp) : List Sp := l.map (tightAt n o l c)
def tightE (n : Int) (o : List Sp) (l : List Tr) (c : List Sp) : Int := if bchkA n o l c ≠ 0 then bchkA n o l c else if feasB n.toNat o l c = true then 0 else 40
def tightV (n : Int) (o : List Sp) (l : List Tr) (c : List Sp) : List Sp := if tightE n o l c = 0 then tightL n.toNat o l c else []

theorem tr_mass {n : Int} {o : List Sp} {l : List Tr} (hB : BOk n o l) {k : Nat} {t : Tr} (h : l[k]? = some t) : 0 ≤ t.mass.lo ∧ t.mass.lo ≤ t.mass.hi ∧ t.mass.hi ≤ 70368744177664 ∧ 0 ≤ t.frm ∧ t.frm < n ∧ 0 ≤ t.to ∧ t.to < n ∧ t.frm ≠ t.to := by
  obtain ⟨a1, a2, a3, a4, a5, a6⟩ := trE_iff.1 (hB.tr t (List.mem_of_getElem? h))
  have := opOk_iff.1 a6
  omega
/-- Feasible with narrower bounds of one transfer: exactly if they meet the tightened interval. -/
theorem feas_set {n : Nat} {o : List Sp} {l : List Tr} {c : List Sp} (hA : bchkA n o l c = 0) (hf : feasB n o l c = true) {k : Nat} {t : Tr} (h : l[k]? = some t) {a b : Int} (h1 : t.mass.lo ≤ a) (h2 : a ≤ b) (h3 : b ≤ t.mass.hi) :
    feasB n o (l.set k (withB t a b)) c = true ↔ (tightAt n o l c t).lo ≤ b ∧ a ≤ (tightAt n o l c t).hi := by
  obtain ⟨hb, hc, hv⟩ := bchkA_ok hA
  have hB := bchk_ok hb
  have hm := tr_mass hB h
  have hok := edges_ok hB (by omega) hv
  have hB' := bok_set hB (a := a) (b := b) h (by omega) h2 (by omega)
  have hok' := edges_ok hB' (by omega) hv
  have hff := (feas_iff hok).1 hf
  unfold tightAt
  rw [feas_iff hok', tLo_iff, tHi_iff]
  simp only [room_same]
  constructor
  · intro hT
    refine ⟨⟨by omega, fun s _ c1 c2 => ?_⟩, by omega, fun s _ c1 c2 => ?_⟩
    · have := hT (inB s)
      rw [edges_set n o l c _ a b h, if_pos ⟨c1, c2⟩, if_neg (by rw [c1]; simp)] at this
      omega
    · have := hT (inB s)
      rw [edges_set n o l c _ a b h, if_neg (by rw [c1]; simp), if_pos ⟨c1, c2⟩] at this
      omega
  · rintro ⟨⟨_, g1⟩, _, g2⟩ T
    obtain ⟨s, hs, hsv⟩ := set_of (n + 1) T
    have hrT : roomOf T (edgesL n o l c) = roomOf (inB s) (edgesL n o l c) := roomOf_congr (n := n) (fun v hv2 => (hsv v (by omega)).symm) fun e he => ⟨(hok e he).u, (hok e he).v⟩
    have e1 := hsv t.frm.toNat (by omega)
    have e2 := hsv t.to.toNat (by omega)
    rw [edges_set n o l c _ a b h, hrT, ← e1, ← e2]
    have hg := hff (inB s)
    by_cases c1 : inB s t.frm.toNat = false ∧ inB s t.to.toNat = true
    · rw [if_pos c1, if_neg (by rw [c1.1]; simp)]
      have := g1 s hs c1.1 c1.2
      omega
    · rw [if_neg c1]
      by_cases c2 : inB s t.frm.toNat = true ∧ inB s t.to.toNat = false
      · rw [if_pos c2]
        have := g2 s hs c2.1 c2.2
        omega
      · rw [if_neg c2]; omega
theorem nodeM_same {n : Nat} {l l' : List Tr} {ms : List Int} {i : Nat} (h : ∀ i, i < l.length → (l'.getD i tr0).frm = (l.getD i tr0).frm ∧ (l'.getD i tr0).to = (l.getD i tr0).to) : ∀ k, k ≤ l.length → nodeM n l' ms i k = nodeM n l ms i k
  | 0, _ => rfl
  | k + 1, hk => by
    obtain ⟨h1, h2⟩ := h k (by omega)
    rw [nodeM, nodeM, nodeM_same h k (by omega)]
    unfold mstep
    rw [h1, h2]
theorem holds_same {n : Int} {o : List Sp} {l l' : List Tr} {c : List Sp} {ms : List Int} (hl : l'.length = l.length) (hft : ∀ i, i < l.length → (l'.getD i tr0).frm = (l.getD i tr0).frm ∧ (l'.getD i tr0).to = (l.getD i tr0).to)
    (hA' : bchkA n o l' c = 0) (h : holdsB n o l c ms = true) (hin : ∀ i, i < l.length → hasV (l'.getD i tr0).mass (ms.getD (o.length + i) 0) = true) : holdsB n o l' c ms = true := by
  unfold holdsB at *
  simp only [Bool.and_eq_true, decide_eq_true_eq] at h ⊢
  obtain ⟨_, h1, h2, _, h4⟩ := h
  refine ⟨hA', by rw [hl]; exact h1, h2, ?_, ?_⟩
  · refine List.all_eq_true.2 fun i hi => hin i ?_
    have := List.mem_range.1 hi
    omega
  · unfold closeIn at *
    refine List.all_eq_true.2 fun i hi => ?_
    have := List.all_eq_true.1 h4 i hi
    rw [hl, nodeM_same hft _ (Nat.le_refl _)]
    exact this
theorem holds_tr {n : Int} {o : List Sp} {l : List Tr} {c : List Sp} {ms : List Int} (h : holdsB n o l c ms = true) : bchkA n o l c = 0 ∧ (ms.length : Int) = n + l.length ∧ ∀ i, i < l.length → hasV (l.getD i tr0).mass (ms.getD (o.length + i) 0) = true := by
  unfold holdsB at h
  simp only [Bool.and_eq_true, decide_eq_true_eq] at h
  obtain ⟨h0, h1, _, h3, _⟩ := h
  exact ⟨h0, h1, fun i hi => List.all_eq_true.1 h3 i (List.mem_range.2 hi)⟩
theorem feas_holds {n : Nat} {o : List Sp} {l : List Tr} {c : List Sp} (hA : bchkA n o l c = 0) : feasB n o l c = true ↔ ∃ ms, holdsB n o l c ms = true := by
  obtain ⟨hb, hc, hv⟩ := bchkA_ok hA
  rw [feas_circ (edges_ok (bchk_ok hb) (by omega) hv)]
  constructor
  · rintro ⟨xs, h⟩; exact ⟨_, (circ_holds hA h).1⟩
  · rintro ⟨ms, h⟩
    obtain ⟨xs, hx, _⟩ := holds_circ h
    exact ⟨xs, hx⟩
theorem bchkA_of {n : Int} {o : List Sp} {l : List Tr} {c : List Sp} (hB : BOk n o l) (hc : (c.length : Int) = n) (hv : allV c = true) : bchkA n o l c = 0 := by
  have h1 := hB.n1
  have h2 := hB.n8
  have h3 := hB.len
  have h4 := hB.few
  have e : bchk n o l = 0 := by
    unfold bchk
    rw [if_neg (by omega), if_neg (by simp only [Bool.not_eq_false]; exact List.all_eq_true.2 hB.op), if_neg (by omega)]
    exact firstE_zero hB.tr
  unfold bchkA
  rw [if_neg (by simp [e]), if_neg (by omega), if_neg (by simp [hv])]
theorem getD_of? {l : List Tr} {k : Nat} {t : Tr} (h : l[k]? = some t) : l.getD k tr0 = t := by rw [List.getD_eq_getElem?_getD, h]; rfl
theorem set_frm {l : List Tr} {k : Nat} {t : Tr} (h : l[k]? = some t) (a b : Int) : ∀ i, i < l.length → ((l.set k (withB t a b)).getD i tr0).frm = (l.getD i tr0).frm ∧ ((l.set k (withB t a b)).getD i tr0).to = (l.getD i tr0).to := by
  intro i hi
  by_cases he : k = i
  · subst he
    have e : (l.set k (withB t a b)).getD k tr0 = withB t a b := by simp [List.getD_eq_getElem?_getD, hi]
    rw [e, getD_of? h]
    exact ⟨rfl, rfl⟩
  · have e : (l.set k (withB t a b)).getD i tr0 = l.getD i tr0 := by simp [List.getD_eq_getElem?_getD, List.getElem?_set, he]
    rw [e]
    exact ⟨rfl, rfl⟩
/-- Which masses a transfer has in assignments. -/
theorem range_of {n : Nat} {o : List Sp} {l : List Tr} {c : List Sp} (hA : bchkA n o l c = 0) (hf : feasB n o l c = true) {k : Nat} {t : Tr} (h : l[k]? = some t) (m : Int) :
    ((tightAt n o l c t).lo ≤ m ∧ m ≤ (tightAt n o l c t).hi) ↔ ∃ ms, holdsB n o l c ms = true ∧ ms.getD (o.length + k) 0 = m := by
  obtain ⟨hb, hc, hv⟩ := bchkA_ok hA
  have hB := bchk_ok hb
  have hm := tr_mass hB h
  have hk : k < l.length := (List.getElem?_eq_some_iff.1 h).1
  have a1 : t.mass.lo ≤ (tightAt n o l c t).lo := (tLo_iff.1 (Int.le_refl (tLo (arcsL n o l c) t (2 ^ (n + 1))))).1
  have a2 : (tightAt n o l c t).hi ≤ t.mass.hi := (tHi_iff.1 (Int.le_refl (tHi (arcsL n o l c) t (2 ^ (n + 1))))).1
  have eset : ∀ a b, (l.set k (withB t a b)).getD k tr0 = withB t a b := fun a b => by simp [List.getD_eq_getElem?_getD, hk]
  have eoth : ∀ a b i, k ≠ i → (l.set k (withB t a b)).getD i tr0 = l.getD i tr0 := fun a b i he => by simp [List.getD_eq_getElem?_getD, List.getElem?_set, he]
  constructor
  · rintro ⟨h1, h2⟩
    have hf' := (feas_set hA hf h (a := m) (b := m) (by omega) (Int.le_refl _) (by omega)).2 ⟨h1, h2⟩
    have hA' := bchkA_of (bok_set hB (a := m) (b := m) h (by omega) (Int.le_refl _) (by omega)) hc hv
    obtain ⟨ms, hms⟩ := (feas_holds hA').1 hf'
    obtain ⟨_, _, htr⟩ := holds_tr hms
    have hmk := htr k (by simpa using hk)
    rw [eset, hasV_iff] at hmk
    have hmk' : m ≤ ms.getD (o.length + k) 0 ∧ ms.getD (o.length + k) 0 ≤ m := hmk.2
    refine ⟨ms, holds_same (by simp) (fun i hi => ?_) hA hms fun i hi => ?_, by omega⟩
    · have := set_frm h m m i (by simpa using hi)
      exact ⟨this.1.symm, this.2.symm⟩
    · have hi' : i < l.length := by simpa using hi
      by_cases he : k = i
      · subst he
        rw [getD_of? h, hasV_iff, sval_iff]
        omega
      · have := htr i (by simpa using hi')
        rwa [eoth _ _ _ he] at this
  · rintro ⟨ms, hms, hmk⟩
    obtain ⟨_, _, htr⟩ := holds_tr hms
    have h2 := htr k hk
    rw [getD_of? h, hmk, hasV_iff] at h2
    have hA' := bchkA_of (bok_set hB (a := m) (b := m) h (by omega) (Int.le_refl _) (by omega)) hc hv
    have hf' : feasB n o (l.set k (withB t m m)) c = true := by
      refine (feas_holds hA').2 ⟨ms, holds_same (by simp) (set_frm h m m) hA' hms fun i hi => ?_⟩
      by_cases he : k = i
      · subst he
        rw [eset, hmk, hasV_iff, sval_iff]
        show (-70368744177664 ≤ m ∧ m ≤ m ∧ m ≤ 70368744177664) ∧ m ≤ m ∧ m ≤ m
        omega
      · rw [eoth _ _ _ he]
        exact htr i hi
    exact (feas_set hA hf h h2.2.1 (Int.le_refl m) h2.2.2).1 hf'
/-- The tightened interval lies in the interval, and is not empty. -/
theorem tight_in {n : Nat} {o : List Sp} {l : List Tr} {c : List Sp} (hA : bchkA n o l c = 0) (hf : feasB n o l c = true) {k : Nat} {t : Tr} (h : l[k]? = some t) :
    t.mass.lo ≤ (tightAt n o l c t).lo ∧ (tightAt n o l c t).hi ≤ t.mass.hi ∧ (tightAt n o l c t).lo ≤ (tightAt n o l c t).hi := by
  refine ⟨(tLo_iff.1 (Int.le_refl (tLo (arcsL n o l c) t (2 ^ (n + 1))))).1, (tHi_iff.1 (Int.le_refl (tHi (arcsL n o l c) t (2 ^ (n + 1))))).1, ?_⟩
  obtain ⟨ms, hms⟩ := (feas_holds hA).1 hf
  have := (range_of hA hf h _).2 ⟨ms, hms, rfl⟩
  omega
/-- All transfers with their tightened intervals. -/
def tightT (n : Nat) (o : List Sp) (l : List Tr) (c : List Sp) : List Tr := l.map fun t => ⟨t.frm, t.to, tightAt n o l c t⟩
theorem tight_stable {n : Nat} {o : List Sp} {l : List Tr} {c : List Sp} (hA : bchkA n o l c = 0) (hf : feasB n o l c = true) :
    bchkA n o (tightT n o l c) c = 0 ∧ feasB n o (tightT n o l c) c = true ∧ tightL n o (tightT n o l c) c = tightL n o l c := by
  obtain ⟨hb, hc, hv⟩ := bchkA_ok hA
  have hB := bchk_ok hb
  have hlen : (tightT n o l c).length = l.length := by simp [tightT]
  have hget : ∀ (i : Nat) (t : Tr), l[i]? = some t → (tightT n o l c)[i]? = some (⟨t.frm, t.to, tightAt n o l c t⟩ : Tr) := fun i t h => by simp [tightT, h]
  have hA' : bchkA n o (tightT n o l c) c = 0 := by
    refine bchkA_of ⟨hB.n1, hB.n8, hB.len, hB.op, by rw [hlen]; exact hB.few, fun u hu => ?_⟩ hc hv
    obtain ⟨t, ht, rfl⟩ := List.mem_map.1 hu
    obtain ⟨k, hk, rfl⟩ := List.getElem_of_mem ht
    have hm := tr_mass hB (List.getElem?_eq_getElem hk)
    have hi := tight_in hA hf (List.getElem?_eq_getElem hk)
    exact trE_iff.2 ⟨by dsimp only; omega, by dsimp only; omega, by dsimp only; omega, by dsimp only; omega, hm.2.2.2.2.2.2.2, opOk_iff.2 (by dsimp only; omega)⟩
  have hft : ∀ i, i < l.length → ((tightT n o l c).getD i tr0).frm = (l.getD i tr0).frm ∧ ((tightT n o l c).getD i tr0).to = (l.getD i tr0).to := fun i hi => by
    rw [getD_of? (hget i _ (List.getElem?_eq_getElem hi)), getD_of? (List.getElem?_eq_getElem hi)]
    exact ⟨rfl, rfl⟩
  -- assignments are the same
  have hto : ∀ ms, holdsB n o l c ms = true → holdsB n o (tightT n o l c) c ms = true := fun ms hms => by
    refine holds_same hlen hft hA' hms fun i hi => ?_
    have hr := (range_of hA hf (List.getElem?_eq_getElem hi) _).2 ⟨ms, hms, rfl⟩
    have hm := tr_mass hB (List.getElem?_eq_getElem hi)
    have ht := tight_in hA hf (List.getElem?_eq_getElem hi)
    rw [getD_of? (hget i _ (List.getElem?_eq_getElem hi)), hasV_iff, sval_iff]
    dsimp only
    omega
  have hof : ∀ ms, holdsB n o (tightT n o l c) c ms = true → holdsB n o l c ms = true := fun ms hms => by
    obtain ⟨_, _, htr⟩ := holds_tr hms
    refine holds_same hlen.symm (fun i hi => ?_) hA hms fun i hi => ?_
    · have := hft i (by omega)
      exact ⟨this.1.symm, this.2.symm⟩
    · rw [hlen] at hi
      have := htr i (by omega)
      have hm := tr_mass hB (List.getElem?_eq_getElem hi)
      have ht := tight_in hA hf (List.getElem?_eq_getElem hi)
      rw [getD_of? (hget i _ (List.getElem?_eq_getElem hi)), hasV_iff] at this
      rw [getD_of? (List.getElem?_eq_getElem hi), hasV_iff, sval_iff]
      dsimp only at this
      omega
  have hf' : feasB n o (tightT n o l c) c = true := by
    obtain ⟨ms, hms⟩ := (feas_holds hA).1 hf
    exact (feas_holds hA').2 ⟨ms, hto ms hms⟩
  refine ⟨hA', hf', ?_⟩
  refine List.ext_getElem (by simp [tightL, tightT]) fun i h1 h2 => ?_
  have hi : i < l.length := by simpa [tightL] using h2
  have ht := List.getElem?_eq_getElem hi
  simp only [tightL, List.getElem_map]
  have hi' : i < (tightT n o l c).length := by omega
  have ht' := hget i _ ht
  have e' : (tightT n o l c)[i]'hi' = ⟨l[i].frm, l[i].to, tightAt n o l c l[i]⟩ := by
    rw [List.getElem?_eq_getElem hi'] at ht'; injection ht'
  rw [e']
  have r1 := fun m => range_of hA hf ht m
  have r2 := fun m => range_of hA' hf' ht' m
  have b1 := tight_in hA hf ht
  have b2 := tight_in hA' hf' ht'
  generalize tightAt n o l c l[i] = x at *
  generalize tightAt n o (tightT n o l c) c ⟨l[i].frm, l[i].to, x⟩ = y at *
  have r : ∀ m, (x.lo ≤ m ∧ m ≤ x.hi) → (y.lo ≤ m ∧ m ≤ y.hi) := fun m hm => by
    obtain ⟨ms, hms, hk⟩ := (r1 m).1 hm
    exact (r2 m).2 ⟨ms, hto ms hms, hk⟩
  have q1 := r x.lo (by omega)
  have q2 := r x.hi (by omega)
  dsimp only at b2
  cases x; cases y
  simp only [Sp.mk.injEq] at *
  omega

end Go.Proofs.Ythaoclocachbaaa
