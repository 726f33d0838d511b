/- The walk of CalibrateSuspects. -/
import Derived.Test.YtpjdoopcjdbefaaCalZ
import Derived.Deep.OwnRows
namespace Go.Proofs.Ytpjdoopcjdbefaa
set_option linter.unusedVariables false
set_option linter.unusedSimpArgs false
open Go.RowKit

theorem mem_mems {S : Nat → Bool} {x : Nat} : ∀ {n s : Nat}, x ∈ mems S s n ↔ s ≤ x ∧ x < s + n ∧ S x = true
  | 0, s => by simp [mems]; omega
  | n + 1, s => by
    have ih := mem_mems (S := S) (x := x) (n := n) (s := s + 1)
    unfold mems
    by_cases h : S s = true
    · rw [if_pos h, List.mem_cons, ih]
      constructor
      · rintro (rfl | ⟨h1, h2, h3⟩)
        · exact ⟨Nat.le_refl _, by omega, h⟩
        · exact ⟨by omega, by omega, h3⟩
      · rintro ⟨h1, h2, h3⟩
        by_cases e : x = s
        · exact .inl e
        · exact .inr ⟨by omega, by omega, h3⟩
    · rw [if_neg h, ih]
      constructor
      · rintro ⟨h1, h2, h3⟩; exact ⟨by omega, by omega, h3⟩
      · rintro ⟨h1, h2, h3⟩
        refine ⟨?_, by omega, h3⟩
        rcases Nat.lt_or_eq_of_le h1 with h4 | rfl
        · omega
        · exact absurd h3 h
theorem mems_sorted (S : Nat → Bool) : ∀ n s, (mems S s n).Pairwise (· < ·)
  | 0, s => by simp [mems]
  | n + 1, s => by
    unfold mems
    split
    · exact List.pairwise_cons.2 ⟨fun x hx => by have := mems_ge S n (s + 1) x hx; omega, mems_sorted S n (s + 1)⟩
    · exact mems_sorted S n (s + 1)
/-- What holds of the suspects. -/
structure SusOk (n : Nat) (CP : List (Nat × Nat)) (C X : List Nat) : Prop where
  lt : ∀ x ∈ X, x < n
  sorted : X.Pairwise (· < ·)
  cov : covS CP (fun i => decide (i ∈ X)) = true
  none : C = [] → X = []
  least : ∀ T : Nat → Bool, covS CP T = true → lessL (mems T 0 n) X = false
theorem sus_ok {S : List Sc} {l : List Pr} : SusOk S.length (conP S l) (conL S l) (susL S l) := by
  obtain ⟨h1, h2, h3, h4⟩ := best_same (conP_ok S l)
  by_cases hC : conL S l = []
  · have hX : susL S l = [] := by unfold susL; rw [if_pos hC]
    have hP : conP S l = [] := by unfold conP; rw [hC]; rfl
    rw [hX, hP]
    refine ⟨by simp, by simp, rfl, fun _ => rfl, fun T _ => ?_⟩
    unfold lessL
    cases mems T 0 S.length with
    | nil => rfl
    | cons y x => simp
  · have hX : susL S l = mems (setP S.length (bestP S.length (conP S l))) 0 S.length := by unfold susL; rw [if_neg hC]
    rw [hX]
    refine ⟨fun x hx => by have := mem_mems.1 hx; omega, mems_sorted _ _ _, ?_, fun h => absurd h hC, h4⟩
    rw [← h2]
    refine covS_congr (conP_ok S l) fun i hi => ?_
    rw [Bool.eq_iff_iff, decide_eq_true_iff, mem_mems]
    constructor
    · exact fun h => h.2.2
    · exact fun h => ⟨Nat.zero_le _, by omega, h⟩
theorem own_far {w : World} {base C n : Nat} {e : TypeId} {v : Value} {xs : List Value} {p : Addr} (h : w.ownsRow base e C v n xs) (hp : p.block < base) (u : Value) : (w.setCell p u).ownsRow base e C v n xs := by
  refine ⟨h.1, ?_⟩
  rcases h.2 with h1 | ⟨g, cap, cur, h1, h2, h3, h4⟩
  · exact .inl h1
  · exact .inr ⟨g, cap, cur, h1, h2, (Below.heap_setCell w p u g (by omega)).trans h3, h4⟩
theorem bit_u32 {v k : Nat} (hv : v < 4294967296) : bits .and .u32 ((v : Int) / (2 : Int) ^ k) 1 = (if v.testBit k = true then 1 else 0) := by
  have e : ((v : Int) / (2 : Int) ^ k) = ((v / 2 ^ k : Nat) : Int) := by simp
  have hd : v / 2 ^ k ≤ v := Nat.div_le_self _ _
  rw [e]
  have : bits .and .u32 ((v / 2 ^ k : Nat) : Int) ((1 : Nat) : Int) = ((v / 2 ^ k &&& 1 : Nat) : Int) := by
    show IntKind.u32.wrap ((BitVec.ofInt 32 ((v / 2 ^ k : Nat) : Int) &&& BitVec.ofInt 32 ((1 : Nat) : Int)).toNat : Int) = _
    rw [BitVec.toNat_and, BitVec.ofInt_natCast, BitVec.ofInt_natCast, BitVec.toNat_ofNat, BitVec.toNat_ofNat, Nat.mod_eq_of_lt (by omega), Nat.mod_eq_of_lt (by omega)]
    have : v / 2 ^ k &&& 1 < 4294967296 := Nat.lt_of_le_of_lt Nat.and_le_right (by omega)
    simp [IntKind.wrap, IntKind.bits, IntKind.signed]; omega
  rw [show ((1 : Nat) : Int) = 1 from rfl] at this
  rw [this, Nat.and_one_is_mod, Nat.testBit_eq_decide_div_mod_eq]
  rcases Nat.mod_two_eq_zero_or_one (v / 2 ^ k) with h | h <;> rw [h] <;> simp
def SlRel (w1 : World) (n : Nat) (X : List Nat) (i : Value) (wr : World) : Prop := ∃ k : Nat, k ≤ X.length ∧ i = .int .i64 k ∧ Below w1.heap.size w1 wr ∧ Blk wr w1.heap.size 4 (bools (rowB n (fun j => decide (j ∈ X.take k))))
def SyRel (w1 : World) (n o : Nat) (X : List Nat) (y i : Value) (wr : World) : Prop := ∃ k : Nat, k ≤ n ∧ i = .int .i64 k ∧ Below w1.heap.size w1 wr ∧ Blk wr w1.heap.size 4 (bools (rowB n (fun j => if j < k then o.testBit j else decide (j ∈ X)))) ∧
  ∃ L : List Nat, L.length ≤ k ∧ wr.ownsRow (w1.heap.size + 1) 3 1 y L.length (rowOf encN L) ∧ mems (setR o) 0 n = L ++ mems (setR o) k (n - k)
set_option maxRecDepth 100000 in
set_option maxHeartbeats 8000000 in
theorem law_sus {w : World} {vs vl : Value} {S : List Sc} {l : List Pr} (hs : RowIn w vs 6 encS S) (hl : RowIn w vl 5 encQ l) (o : Nat) (ho : o < 4294967296) : Calls Try.prog 6 #[vs, vl, .int .u32 (o : Int)] w fun e w' => e = .returned (.bool true) ∧ Below w.heap.size w w' := by
  have hs' := hs
  have hl' := hl
  obtain ⟨sa, cs, rfl, s1, s2, _, _⟩ := hs.at_
  obtain ⟨la, cl, rfl, l1, l2, _, _⟩ := hl.at_
  have hfew := fun w => few_any (w := w) (oa := sa) (ob := la) S.length l.length cs cl s1 s2 l1 l2
  unfold maxLen at s2
  clear l1 l2 hs hl
  have hb := Below.refl w.heap.size w
  by_cases hf : S.length ≤ 20 ∧ l.length ≤ 100
  case neg =>
    rw [decide_eq_false hf] at hfew
    clear hf
    go_enter Try.func6, Try.ntmps6
    go_wp2_with fail
    refine (hfew _).mono ?_
    rintro e w1 ⟨rfl, rfl⟩
    go_wp2_with fail
    refine (awake29_any _).mono ?_
    rintro e w9 ⟨rfl, hb9⟩
    go_wp2_with fail
    go_ret
    exact ⟨by first | rfl | simp, hb.trans (hb9.mono hb.size)⟩
  rw [decide_eq_true hf] at hfew
  have hc1 := fun w hs hl => conflicts_any (w := w) (vs := .slice sa S.length cs) (vl := .slice la l.length cl) (S := S) (l := l) hs hl
  have hc2 := fun w hs hl => suspects_any (w := w) (vs := .slice sa S.length cs) (vl := .slice la l.length cl) (S := S) (l := l) hs hl
  clear hf
  by_cases h0 : conE S l = 0
  case neg =>
    have h0' : (conE S l != 0) = true := by simpa using h0
    rw [conL_no h0] at hc1
    rw [sus_no h0] at hc2
    clear h0
    generalize conE S l = E at *
    go_enter Try.func6, Try.ntmps6
    go_wp2_with fail
    refine (hfew _).mono ?_
    rintro e w1 ⟨rfl, rfl⟩
    go_wp2_with fail
    refine (hc1 _ hs' hl').mono ?_
    rintro e w2 ⟨v2, rfl, R2, hb2⟩
    replace hs' := hs'.step hb2
    replace hl' := hl'.step hb2
    replace hb := hb.trans (hb2.mono hb.size)
    go_wp2_with fail
    refine (hc2 _ hs' hl').mono ?_
    rintro e w3 ⟨v3, rfl, R3, hb3⟩
    replace R2 := R2.step hb3
    replace hl' := hl'.step hb3
    replace hb := hb.trans (hb3.mono hb.size)
    clear hb2 hb3 hc1 hc2 hfew hs'
    obtain ⟨xa, xc, rfl, _, _, _, _⟩ := R3.at_
    clear R2 R3
    go_wp2_with fail
    refine (awake29_any _).mono ?_
    rintro e w9 ⟨rfl, hb9⟩
    go_wp2_with fail
    go_ret
    exact ⟨by first | rfl | simp, hb.trans (hb9.mono hb.size)⟩
  obtain ⟨g1, _, _, _⟩ := conE_ok h0
  have hmt := fun (w : World) (g : Nat) (vl vc : Value) (T : Nat → Bool) hg hl hc => meets_any (w := w) (g := g) (vl := vl) (vc := vc) (S := S) (l := l) T hg g1 hl hc
  have hok := sus_ok (S := S) (l := l)
  rw [h0] at hc1 hc2
  clear h0
  generalize susL S l = X at *
  generalize conP S l = CP at *
  generalize conL S l = C at *
  have HOK := Lib.hid hok
  have HMT := Lib.hid hmt
  clear hok hmt
  obtain ⟨ti, hi, hz, hsi, hby⟩ := info_of (P := Try.prog) (t := 4) (z := .bool false) (size := 1) (bytes := 1) (by kernel_rfl)
  go_enter Try.func6, Try.ntmps6
  go_wp2_with fail
  refine (hfew _).mono ?_
  rintro e w1 ⟨rfl, rfl⟩
  go_wp2_with fail
  refine (hc1 _ hs' hl').mono ?_
  rintro e w2 ⟨v2, rfl, R2, hb2⟩
  replace hs' := hs'.step hb2
  replace hl' := hl'.step hb2
  replace hb := hb.trans (hb2.mono hb.size)
  go_wp2_with fail
  refine (hc2 _ hs' hl').mono ?_
  rintro e w3 ⟨v3, rfl, R3, hb3⟩
  replace R2 := R2.step hb3
  replace hl' := hl'.step hb3
  replace hb := hb.trans (hb3.mono hb.size)
  clear hb2 hb3 hc1 hc2 hfew hs'
  have HC := Lib.hid R2
  have HX := Lib.hid R3
  have HLL := Lib.hid hl'
  obtain ⟨ca, cc, rfl, c1, c2, _, _⟩ := R2.at_
  obtain ⟨xa, xc, rfl, x1, x2, _, hx5⟩ := R3.at_
  unfold maxLen at c2 x2
  have HXC := Lib.hid hx5
  clear hx5 R2 R3 hl'
  have hz3 := hb.size
  go_wp2_with (at_make; go_loud (refine wpList_make_row _ rfl _ _ 40 rfl 4 ti (.bool false) Try.underlying40 hi hz hsi (by rfl) .i64 .i64 S.length rfl rfl (by rw [hby]; omega) (by omega) ?_))
  rw [bools_made, rowB_zero]
  have BG := Blk.new w3 4 (bools (rowB S.length (fun _ => false)))
  have hbg : Below w3.heap.size w3 (w3.alloc (.cells (bools (rowB S.length (fun _ => false))) 4)) := by repeat (first | (with_reducible exact Below.refl _ _) | (with_reducible assumption) | (with_reducible refine Below.drew ?_) | ((with_reducible refine Below.alloc ?_ ?_ _); rotate_left; (first | (with_reducible exact Nat.zero_le _) | (with_reducible exact Nat.le_refl _) | omega | (dsimp only; omega) | (simp only [World.size_alloc, World.size_setCell, World.size_drew]; omega))) | ((with_reducible refine Below.setCell ?_ ?_ _); rotate_left; (first | (with_reducible exact Nat.zero_le _) | (with_reducible exact Nat.le_refl _) | omega | (dsimp only; omega) | (simp only [World.size_alloc, World.size_setCell, World.size_drew]; omega))))
  go_wp2_with fail
  go_loopw [55] (fun i wr => SlRel w3 S.length X i wr) (fun i _ => (X.length - intOf i).toNat)
  case atStart => exact ⟨0, Nat.zero_le _, rfl, hbg, by simpa using BG⟩
  case round =>
    clear BG hbg
    obtain ⟨k, hk, rfl, hbr, BG⟩ := hrel
    have hwr := hbr.size
    by_cases hkl : k < X.length
    · have hki : (k : Int) < X.length := by omega
      have hk0 : (0 : Int) ≤ k := by omega
      have hx := getD_of (d := 0) hkl
      obtain ⟨ob, oo, hoo, hoz, hoc⟩ := HXC.out (by rintro rfl; simp at hkl)
      subst hoo
      have e0 : World.cell? wr ⟨ob, oo + k, none⟩ = some (.int .i64 ((X.getD k 0 : Nat) : Int)) := by
        have := hoc k _ hx 0 (by omega)
        rw [Nat.mul_one, Nat.add_zero] at this
        exact (hbr.cell (p := ⟨ob, oo + k, none⟩) hoz).trans this
      have hlt := HOK.out.lt _ (List.mem_of_getElem? hx)
      have hT : (fun j => if j = X.getD k 0 then true else decide (j ∈ X.take k)) = (fun j => decide (j ∈ X.take (k + 1))) := by
        funext j
        rw [List.take_add_one, hx]
        by_cases e : j = X.getD k 0
        · simp [e, Bool.or_comm]
        · simp [e, Bool.or_comm]
      have hpv : ∀ k', k = k' + 1 → X.getD k' 0 < X.getD k 0 := fun k' e => by
        have hs := List.pairwise_iff_getElem.1 HOK.out.sorted k' k (by omega) hkl (by omega)
        rw [List.getD_eq_getElem?_getD, List.getElem?_eq_getElem (by omega), List.getD_eq_getElem?_getD, List.getElem?_eq_getElem hkl]
        exact hs
      have hprev : ∀ k', k = k' + 1 → World.cell? wr ⟨ob, oo + k', none⟩ = some (.int .i64 ((X.getD k' 0 : Nat) : Int)) := fun k' e => by
        have := hoc k' _ (getD_of (d := 0) (by omega)) 0 (by omega)
        rw [Nat.mul_one, Nat.add_zero] at this
        exact (hbr.cell (p := ⟨ob, oo + k', none⟩) hoz).trans this
      have HT := Lib.hid hT
      clear hx hoc hT
      generalize X.getD k 0 = x at *
      have hxi : (x : Int) < S.length := by omega
      have hx0 : (0 : Int) ≤ x := by omega
      have gc := BG.getb (rowB_get (fun j => decide (j ∈ X.take k)) hlt)
      have gf := BG.free x
      have gl := BG.lt
      have BG' := BG.setb x true
      rw [rowB_set, HT.out] at BG'
      have hbs : Below w3.heap.size w3 (wr.setCell ⟨w3.heap.size, x, none⟩ (.bool true)) := hbr.setCell (by simp) _
      rcases Nat.eq_zero_or_pos k with hkz | hkp
      · have hkz' : ¬ (k : Int) > 0 := by omega
        clear hpv hprev hkz
        go_wp2_with fail
        go_roundw
        case rel => exact ⟨k + 1, hkl, by simp, hbs, BG'⟩
        case measure => simp [intOf]; omega
      · obtain ⟨k', hk'⟩ : ∃ k', k = k' + 1 := ⟨k - 1, by omega⟩
        have e1 := hprev k' hk'
        have hlt1 := hpv k' hk'
        generalize X.getD k' 0 = x' at *
        have hks : (k : Int) - 1 = (k' : Int) := by omega
        have hkg : (k : Int) > 0 := by omega
        have hk1 : (k' : Int) < X.length := by omega
        have hk2 : (0 : Int) ≤ k' := by omega
        have hle : ¬ (x' : Int) ≥ x := by omega
        clear hprev hpv hk'
        go_wp2_with fail
        go_roundw
        case rel => exact ⟨k + 1, hkl, by simp, hbs, BG'⟩
        case measure => simp [intOf]; omega
    · obtain rfl : k = X.length := by omega
      rw [List.take_length] at BG
      have hbw := hb.trans (hbr.mono hz3)
      have hm1 := HMT.out wr w3.heap.size _ _ (fun j => decide (j ∈ X)) BG (HLL.out.step hbr) (HC.out.step hbr)
      rw [HOK.out.cov] at hm1
      have hnn : (C.length : Int) = 0 → (X.length : Int) = 0 := fun h => by
        have : C = [] := List.eq_nil_of_length_eq_zero (by omega)
        rw [HOK.out.none this]; rfl
      have hcase : ((C.length : Int) == 0) = false ∨ (((C.length : Int) == 0) = true ∧ ((X.length : Int) != 0) = false) := by
        by_cases h : (C.length : Int) = 0
        · exact .inr ⟨by simpa using h, by simpa using hnn h⟩
        · exact .inl (by simpa using h)
      clear hnn
      rcases hcase with hcz | ⟨hcz, hxz⟩
      all_goals (
        go_wp2_with fail
        refine hm1.mono ?_
        rintro e w4 ⟨rfl, hb4⟩
        replace BG := BG.step hb4
        replace hbr := hbr.trans (hb4.mono hbr.size)
        replace hbw := hbw.trans (hb4.mono hbw.size)
        clear hm1 hb4
        obtain ⟨tj, ji, jz, jsi, jby⟩ := info_of (P := Try.prog) (t := 3) (z := .int .i64 0) (size := 1) (bytes := 8) (by kernel_rfl)
        have hls := BG.lt
        go_wp2_with fail
        go_loopw [14, 102] (fun y i wz => SyRel w3 S.length o X y i wz) (fun _ i _ => (S.length - intOf i).toNat)
        case atStart => exact ⟨0, Nat.zero_le _, rfl, hbr, by simpa using BG, [], Nat.zero_le _, ⟨by simp [rowOf], .inl ⟨rfl, rfl⟩⟩, by simp⟩
        case round =>
          clear BG hbr hbw hls hwr
          obtain ⟨k, hk, rfl, hbr, BG, L, hLk, own, hL⟩ := hrel
          have hwr := hbr.size
          have hbw := hb.trans (hbr.mono hz3)
          by_cases hkl : k < S.length
          · have hki : (k : Int) < S.length := by omega
            have hk0 : (0 : Int) ≤ k := by omega
            have hk16 : (k : Int) ≤ 16 := by omega
            have hbit := bit_u32 (k := k) ho
            have hmk : mems (setR o) k (S.length - k) = if o.testBit k = true then k :: mems (setR o) (k + 1) (S.length - (k + 1)) else mems (setR o) (k + 1) (S.length - (k + 1)) := by
              rw [show S.length - k = (S.length - (k + 1)) + 1 by omega, mems]; rfl
            rw [hmk] at hL
            have gc := BG.getb (rowB_get (fun j => if j < k then o.testBit j else decide (j ∈ X)) hkl)
            have gf := BG.free k
            have gl := BG.lt
            have hT : rowB S.length (fun j => if j = k then o.testBit k else if j < k then o.testBit j else decide (j ∈ X)) = rowB S.length (fun j => if j < k + 1 then o.testBit j else decide (j ∈ X)) := by
              refine rowB_congr fun j _ => ?_
              by_cases e : j = k
              · rw [if_pos e, if_pos (by omega), e]
              · rw [if_neg e]
                by_cases e2 : j < k
                · rw [if_pos e2, if_pos (by omega)]
                · rw [if_neg e2, if_neg (by omega)]
            have BG' := BG.setb k (o.testBit k)
            rw [rowB_set, hT] at BG'
            have HBG := Lib.hid BG'
            have hown := fun b : Bool => own_far (p := ⟨w3.heap.size, k, none⟩) own (by simp) (.bool b)
            have hbsf := fun b : Bool => hbr.setCell (p := ⟨w3.heap.size, k, none⟩) (by simp) (.bool b)
            clear hmk hT BG'
            cases hob : o.testBit k with
            | false =>
              rw [hob, if_neg (by simp)] at hL hbit
              have HL := Lib.hid hL
              have HB2 := Lib.hid (hob ▸ HBG.out)
              clear hL hob HBG
              go_wp2_with fail
              go_roundw
              case rel => exact ⟨k + 1, hkl, by simp, hbsf false, HB2.out, L, by omega, hown false, HL.out⟩
              case measure => simp [intOf]; omega
            | true =>
              rw [hob, if_pos rfl] at hL hbit
              have HL := Lib.hid hL
              have HB2 := HBG.out
              rw [hob] at HB2
              have gset : World.cell? (wr.setCell ⟨w3.heap.size, k, none⟩ (.bool true)) ⟨w3.heap.size, k, none⟩ = some (.bool true) := by
                have := HB2.getb (rowB_get (fun j => if j < k + 1 then o.testBit j else decide (j ∈ X)) hkl)
                rw [this, if_pos (by omega), hob]
              have BK := Blk.new (wr.setCell ⟨w3.heap.size, k, none⟩ (.bool true)) 3 #[.int .i64 (k : Int)]
              have hb6 : Below (wr.setCell ⟨w3.heap.size, k, none⟩ (.bool true)).heap.size (wr.setCell ⟨w3.heap.size, k, none⟩ (.bool true)) ((wr.setCell ⟨w3.heap.size, k, none⟩ (.bool true)).alloc (.cells #[.int .i64 (k : Int)] 3)) := Below.alloc (Below.refl _ _) (Nat.le_refl _) _
              have own1 := ownsRow_step (hown true) hb6
              have hbx := (hbsf true).trans (hb6.mono (hbsf true).size)
              have HB3 := Lib.hid (HB2.step hb6)
              have hzz : w3.heap.size + 1 ≤ ((wr.setCell ⟨w3.heap.size, k, none⟩ (.bool true)).alloc (.cells #[.int .i64 (k : Int)] 3)).heap.size := by simp; omega
              simp only [World.size_setCell] at BK
              clear hL hob HBG HB2 hown hbsf own BG hb6
              go_wp2_with (at_builtin; refine wpList_append_any _ rfl _ _ _ rfl (w3.heap.size + 1) 3 tj _ 1 8 Try.underlying26 ji jz jsi jby rfl (by omega) _ L.length _ rfl own1 _ 1 (encN k) rfl (Src.of_blk BK 1) rfl (fun u hu => oneN [k] u (by simpa [rowOf] using hu)) (by simp only [maxLen]; omega) (by omega) hzz ?_; intro v6 w6 own6 hg6 hat6)
              have hge := own_ge' own1
              have hb7 := Below.grown hbx hg6 hbx.size (fun j hj => Nat.le_of_succ_le (hge j hj))
              have BG7 := Blk.grown HB3.out hg6 (fun h => absurd (hge _ h.symm) (by omega))
              have own6' : w6.ownsRow (w3.heap.size + 1) 3 1 v6 (L ++ [k]).length (rowOf encN (L ++ [k])) := by
                rw [rowOf_append, List.length_append]
                simpa [rowOf] using own6
              clear own6 own1 hg6 hat6
              go_roundw
              case rel => exact ⟨k + 1, hkl, by simp, hb7, BG7, L ++ [k], by simp; omega, own6', by rw [HL.out, List.append_assoc]; rfl⟩
              case measure => simp [intOf]; omega
          · obtain rfl : k = S.length := by omega
            have hLm : mems (setR o) 0 S.length = L := by rw [hL, Nat.sub_self]; simp [mems]
            have BG2 : Blk wr w3.heap.size 4 (bools (rowB S.length (setR o))) := by
              rw [rowB_congr (T := setR o) (U := fun j => if j < S.length then o.testBit j else decide (j ∈ X)) fun i hi => by rw [if_pos hi]; rfl]
              exact BG
            have RY : RowIn wr u14 1 encN L := RowIn.of_own encN_len own
            have hm2 := HMT.out wr w3.heap.size _ _ (setR o) BG2 (HLL.out.step hbr) (HC.out.step hbr)
            have hlst := HOK.out.least (setR o)
            rw [hLm] at hlst
            clear hL hLm BG BG2 own
            cases hcv : covS CP (setR o) with
            | false =>
              rw [hcv] at hm2
              clear hlst hcv
              go_wp2_with fail
              refine hm2.mono ?_
              rintro e w5 ⟨rfl, hb5⟩
              have hb := hbw.trans (hb5.mono hbw.size)
              clear hm2
              go_wp2_with fail
              refine (awake29_any _).mono ?_
              rintro e w9 ⟨rfl, hb9⟩
              go_wp2_with fail
              go_ret
              exact ⟨by first | rfl | simp, hb.trans (hb9.mono hb.size)⟩
            | true =>
              rw [hcv] at hm2
              have hls := hlst hcv
              clear hlst hcv
              go_wp2_with fail
              refine hm2.mono ?_
              rintro e w5 ⟨rfl, hb5⟩
              have hbn := hbw.trans (hb5.mono hbw.size)
              have hle := less_any (RY.step hb5) ((HX.out.step hbr).step hb5)
              rw [hls] at hle
              clear hm2 hls RY
              go_wp2_with fail
              refine hle.mono ?_
              rintro e w6 ⟨rfl, hb6⟩
              have hb := hbn.trans (hb6.mono hbn.size)
              clear hle
              go_wp2_with fail
              refine (awake29_any _).mono ?_
              rintro e w9 ⟨rfl, hb9⟩
              go_wp2_with fail
              go_ret
              exact ⟨by first | rfl | simp, hb.trans (hb9.mono hb.size)⟩)

theorem law_sus' {w : World} {vs vl : Value} {S : List Sc} {l : List Pr} (hs : RowIn w vs 6 encS S) (hl : RowIn w vl 5 encQ l) (o : Int) (h0 : 0 ≤ o) (ho : o < 4294967296) : Calls Try.prog 6 #[vs, vl, .int .u32 o] w fun e w' => e = .returned (.bool true) ∧ Below w.heap.size w w' := by
  obtain ⟨n, rfl⟩ : ∃ n : Nat, o = n := ⟨o.toNat, by omega⟩
  exact law_sus hs hl n (by omega)

end Go.Proofs.Ytpjdoopcjdbefaa
