/- The plain law of TopLotsBalance: the stock of lots and the balance of their transfers. No program in sight. -/
import Derived.Test.YtapfihlfnaebhaaLotG
import Derived.Test.YtapfihlfnaebhaaBalP
namespace Go.Proofs.Ytapfihlfnaebhaa
set_option linter.unusedVariables false
set_option linter.unusedSimpArgs false
open Go

def trP (p : Pt) : Tr := ⟨1, 2, ⟨p.lo, p.hi⟩⟩
def trX (x : Lv) : Tr := ⟨0, 1, ⟨x.lo, x.hi⟩⟩
def movX (x : Lv) : List Tr := x.parts.map trP ++ [trX x]
def TL (L : List Lv) : List Tr := L.flatMap movX
theorem TL_take {L : List Lv} {k : Nat} {x : Lv} (h : L[k]? = some x) : TL (L.take (k + 1)) = TL (L.take k) ++ movX x := by
  unfold TL; rw [List.take_add_one, h, List.flatMap_append]; simp
def sumK (f : Nat → Int) : Nat → Int
  | 0 => 0
  | k + 1 => sumK f k + f k
theorem sumK_congr {f g : Nat → Int} : ∀ {n : Nat}, (∀ i, i < n → f i = g i) → sumK f n = sumK g n
  | 0, _ => rfl
  | n + 1, h => by unfold sumK; rw [sumK_congr fun i hi => h i (by omega), h n (by omega)]
theorem sumK_one {f : Nat → Int} {g : Nat} {c : Int} (d : Nat → Bool) (hd : ∀ n, d n = decide (n = g)) : ∀ n, sumK (fun i => if d i = true then f i + c else f i) n = sumK f n + if g < n then c else 0
  | 0 => by simp [sumK]
  | n + 1 => by
    unfold sumK
    rw [sumK_one d hd n, hd n]
    by_cases e : n = g
    · subst e
      simp only [decide_true, if_pos, if_neg (Nat.lt_irrefl _), if_pos (Nat.lt_succ_self _)]
      omega
    · rw [decide_eq_false e]
      simp only [Bool.false_eq_true, if_false]
      by_cases h : g < n
      · rw [if_pos h, if_pos (by omega)]; omega
      · rw [if_neg h, if_neg (by omega)]; omega
theorem foldl_add (f : Pt → Int) : ∀ (ps : List Pt) (a : Int), ps.foldl (fun a p => a + f p) a = a + ps.foldl (fun a p => a + f p) 0
  | [], a => by simp
  | p :: ps, a => by
    simp only [List.foldl_cons]
    rw [foldl_add f ps (a + f p), foldl_add f ps (0 + f p)]; omega
theorem sumLo_cons (p : Pt) (ps : List Pt) : sumLo (p :: ps) = p.lo + sumLo ps := by
  unfold sumLo
  rw [List.foldl_cons, foldl_add Pt.lo ps (0 + p.lo)]; omega
theorem sumHi_cons (p : Pt) (ps : List Pt) : sumHi (p :: ps) = p.hi + sumHi ps := by
  unfold sumHi
  rw [List.foldl_cons, foldl_add Pt.hi ps (0 + p.hi)]; omega
theorem part_at {L : List Lv} (h : chkL L = 0) {i : Nat} (hi : i < L.length) {p : Pt} (hp : p ∈ (L.getD i lv0).parts) : ∃ g, g < L.length ∧ ∀ k, k < L.length → (p.lot = (L.getD k lv0).id ↔ k = g) := by
  obtain ⟨ok1, ok2, ok3, ok4⟩ := chkL_ok h
  have h1 := ((oneE_ok (lotsE_at ok2 i hi).2).2.1 p hp).1
  obtain ⟨g, hg, he⟩ := kn_some.1 h1
  refine ⟨g, by omega, fun k hk => ⟨fun e => nodup_at ok3 k g hk (by omega) (by rw [he, ← e]), fun e => by rw [e, he]⟩⟩
theorem addP_sum {L : List Lv} {p : Pt} {n : Nat} (hp : ∃ g, g < n ∧ ∀ k, k < n → (p.lot = (L.getD k lv0).id ↔ k = g)) (s : Nat → Sp) :
    sumK (fun i => (addP (L.getD i lv0).id (s i) p).lo) n = sumK (fun i => (s i).lo) n + p.lo ∧ sumK (fun i => (addP (L.getD i lv0).id (s i) p).hi) n = sumK (fun i => (s i).hi) n + p.hi := by
  obtain ⟨g, hg, hk⟩ := hp
  constructor
  · have := sumK_one (f := fun i => (s i).lo) (g := g) (c := p.lo) (fun n => decide (n = g)) (fun _ => rfl) n
    rw [if_pos hg] at this
    rw [← this]
    refine sumK_congr fun i hi => ?_
    unfold addP
    by_cases e : i = g
    · rw [if_pos ((hk i hi).2 e), if_pos (decide_eq_true e)]
    · rw [if_neg (fun h => e ((hk i hi).1 h)), decide_eq_false e, if_neg (by simp)]
  · have := sumK_one (f := fun i => (s i).hi) (g := g) (c := p.hi) (fun n => decide (n = g)) (fun _ => rfl) n
    rw [if_pos hg] at this
    rw [← this]
    refine sumK_congr fun i hi => ?_
    unfold addP
    by_cases e : i = g
    · rw [if_pos ((hk i hi).2 e), if_pos (decide_eq_true e)]
    · rw [if_neg (fun h => e ((hk i hi).1 h)), decide_eq_false e, if_neg (by simp)]
theorem tkP_sum {L : List Lv} {n : Nat} : ∀ (ps : List Pt) (s : Nat → Sp), (∀ p ∈ ps, ∃ g, g < n ∧ ∀ k, k < n → (p.lot = (L.getD k lv0).id ↔ k = g)) →
    sumK (fun i => (tkP (L.getD i lv0).id (s i) ps).lo) n = sumK (fun i => (s i).lo) n + sumLo ps ∧ sumK (fun i => (tkP (L.getD i lv0).id (s i) ps).hi) n = sumK (fun i => (s i).hi) n + sumHi ps
  | [], s, _ => by simp [tkP, sumLo, sumHi]
  | p :: ps, s, h => by
    obtain ⟨h1, h2⟩ := addP_sum (h p (by simp)) s
    obtain ⟨h3, h4⟩ := tkP_sum ps (fun i => addP (L.getD i lv0).id (s i) p) fun q hq => h q (by simp [hq])
    rw [sumLo_cons, sumHi_cons]
    refine ⟨?_, ?_⟩
    · show sumK (fun i => (tkP (L.getD i lv0).id (addP (L.getD i lv0).id (s i) p) ps).lo) n = _
      rw [h3, h1]; omega
    · show sumK (fun i => (tkP (L.getD i lv0).id (addP (L.getD i lv0).id (s i) p) ps).hi) n = _
      rw [h4, h2]; omega
theorem tk_sum {L : List Lv} (h : chkL L = 0) : ∀ m, m ≤ L.length →
    sumK (fun i => (tk (L.take m) (L.getD i lv0).id).lo) L.length = sumK (fun i => sumLo (L.getD i lv0).parts) m ∧ sumK (fun i => (tk (L.take m) (L.getD i lv0).id).hi) L.length = sumK (fun i => sumHi (L.getD i lv0).parts) m
  | 0, _ => by
    have : ∀ n, sumK (fun _ => (0 : Int)) n = 0 := fun n => by
      induction n with
      | zero => rfl
      | succ n ih => unfold sumK; rw [ih]; rfl
    exact ⟨this _, this _⟩
  | m + 1, hm => by
    obtain ⟨h1, h2⟩ := tk_sum h m (by omega)
    have hx : L[m]? = some (L.getD m lv0) := getD_of (by omega)
    obtain ⟨h3, h4⟩ := tkP_sum (n := L.length) (L := L) (L.getD m lv0).parts (fun i => tk (L.take m) (L.getD i lv0).id) fun p hp => part_at h (by omega) hp
    refine ⟨?_, ?_⟩
    · rw [show (fun i => (tk (L.take (m + 1)) (L.getD i lv0).id).lo) = fun i => (tkP (L.getD i lv0).id (tk (L.take m) (L.getD i lv0).id) (L.getD m lv0).parts).lo from funext fun i => by rw [tk_take _ hx], h3, h1]; rfl
    · rw [show (fun i => (tk (L.take (m + 1)) (L.getD i lv0).id).hi) = fun i => (tkP (L.getD i lv0).id (tk (L.take m) (L.getD i lv0).id) (L.getD m lv0).parts).hi from funext fun i => by rw [tk_take _ hx], h4, h2]; rfl
theorem node_parts : ∀ (ps : List Pt) (s : Sp), nodeS (ps.map trP) 1 s = ⟨s.lo - sumHi ps, s.hi - sumLo ps⟩
  | [], s => by simp [nodeS, sumLo, sumHi]
  | p :: ps, s => by
    have := node_parts ps ⟨s.lo - p.hi, s.hi - p.lo⟩
    unfold nodeS at *
    rw [List.map_cons, List.foldl_cons]
    have e : stepS (trP p) 1 s = ⟨s.lo - p.hi, s.hi - p.lo⟩ := by unfold stepS trP; simp
    rw [e, this, sumLo_cons, sumHi_cons]
    simp only [Sp.mk.injEq]
    omega
theorem node_mov (x : Lv) (s : Sp) : nodeS (movX x) 1 s = ⟨s.lo - sumHi x.parts + x.lo, s.hi - sumLo x.parts + x.hi⟩ := by
  have h := node_parts x.parts s
  unfold movX
  unfold nodeS at *
  rw [List.foldl_append, h]
  show stepS (trX x) 1 _ = _
  unfold stepS trX
  simp
theorem node_TL {L : List Lv} : ∀ m, m ≤ L.length → nodeS (TL (L.take m)) 1 sp0 = ⟨sumK (fun i => (L.getD i lv0).lo - sumHi (L.getD i lv0).parts) m, sumK (fun i => (L.getD i lv0).hi - sumLo (L.getD i lv0).parts) m⟩
  | 0, _ => rfl
  | m + 1, hm => by
    have ih := node_TL (L := L) m (by omega)
    have hx : L[m]? = some (L.getD m lv0) := getD_of (by omega)
    have hm' := node_mov (L.getD m lv0) (nodeS (TL (L.take m)) 1 sp0)
    rw [TL_take hx]
    unfold nodeS at *
    rw [List.foldl_append, hm', ih]
    simp only [sumK, Sp.mk.injEq]
    omega
theorem sumK_sub (f g : Nat → Int) : ∀ n, sumK (fun i => f i - g i) n = sumK f n - sumK g n
  | 0 => rfl
  | n + 1 => by unfold sumK; rw [sumK_sub f g n]; omega
theorem st_sums {L : List Lv} (hm : ∀ x ∈ L, x.mat = 0) : ∀ k, k ≤ L.length → (stS L 0 k).hi = sumK (fun i => (L.getD i lv0).hi - (tk L (L.getD i lv0).id).lo) k ∧ sumK (fun i => (L.getD i lv0).lo - (tk L (L.getD i lv0).id).hi) k ≤ (stS L 0 k).lo ∧ 0 ≤ (stS L 0 k).lo
  | 0, _ => ⟨rfl, Int.le_refl _, Int.le_refl _⟩
  | k + 1, hk => by
    obtain ⟨h1, h2, h3⟩ := st_sums hm k (by omega)
    have hx : L[k]? = some (L.getD k lv0) := getD_of (by omega)
    have h0 := hm _ (List.mem_of_getElem? hx)
    unfold stS
    rw [if_pos h0]
    unfold restS sumK
    dsimp only
    refine ⟨by omega, ?_, ?_⟩ <;> split <;> omega
/-- What the law says of the two stocks. -/
theorem lots_balance {L : List Lv} (h : chkL L = 0) (hm : ∀ x ∈ L, x.mat = 0) : (stS L 0 L.length).hi = (nodeS (TL L) 1 sp0).hi ∧ (nodeS (TL L) 1 sp0).lo ≤ (stS L 0 L.length).lo ∧ 0 ≤ (stS L 0 L.length).lo := by
  obtain ⟨h1, h2, h3⟩ := st_sums hm L.length (Nat.le_refl _)
  have h4 := node_TL (L := L) L.length (Nat.le_refl _)
  obtain ⟨h5, h6⟩ := tk_sum h L.length (Nat.le_refl _)
  rw [List.take_length] at h4 h5 h6
  rw [h4]
  dsimp only
  rw [sumK_sub] at h1 h2
  rw [sumK_sub, sumK_sub]
  exact ⟨by omega, by omega, h3⟩
theorem TL_ok {L : List Lv} (h : chkL L = 0) : ∀ t ∈ TL L, trE 3 t = 0 := fun t ht => by
  obtain ⟨x, hx, hxt⟩ := List.mem_flatMap.1 ht
  have hP := partsOk (chkL_ok h).2.1 (chkL_ok h).1
  obtain ⟨k, hk, rfl⟩ := List.getElem_of_mem hx
  have hlo := lot_ok (chkL_ok h).2.1 hk
  rw [show L.getD k lv0 = L[k] by rw [List.getD_eq_getElem?_getD, List.getElem?_eq_getElem hk]; rfl] at hlo
  rcases List.mem_append.1 hxt with h1 | h1
  · obtain ⟨p, hp, rfl⟩ := List.mem_map.1 h1
    have := mOk_iff.1 (hP.mass _ hx p hp)
    exact trE_iff.2 ⟨by show (0 : Int) ≤ 1; omega, by show (1 : Int) < 3; omega, by show (0 : Int) ≤ 2; omega, by show (2 : Int) < 3; omega, by show (1 : Int) ≠ 2; omega, opOk_iff.2 this⟩
  · obtain rfl := List.mem_singleton.1 h1
    exact trE_iff.2 ⟨by show (0 : Int) ≤ 0; omega, by show (0 : Int) < 3; omega, by show (0 : Int) ≤ 1; omega, by show (1 : Int) < 3; omega, by show (0 : Int) ≠ 1; omega, opOk_iff.2 ⟨by show 0 ≤ L[k].lo; omega, by show L[k].lo ≤ L[k].hi; omega, by show L[k].hi ≤ _; omega⟩⟩
def o3 : List Sp := [sp0, sp0, sp0]
theorem TL_chk {L : List Lv} (h : chkL L = 0) (hl : (TL L).length ≤ 60) : bchk 3 o3 (TL L) = 0 := by
  unfold bchk
  rw [if_neg (by simp [o3]), if_neg (by decide), if_neg (by omega), firstE_zero (TL_ok h)]

end Go.Proofs.Ytapfihlfnaebhaa
