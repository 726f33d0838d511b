/- Contracts: Check and Active of tickets numbered from one on. -/
import Derived.Test.YtapfihlfnaebhaaMeaC
namespace Go.Proofs.Ytapfihlfnaebhaa
set_option linter.unusedVariables false
set_option linter.unusedSimpArgs false
open Go.RowKit Go.ChangeMaps Go.Maps

section
variable {α : Type} {E : Elem α} {w : World} {P : Program} {k : TypeId} {b n s : Nat} {f : Int → Option α}
variable {ops : Array Oper} {rest : List Oper} {o : Oper} {a : Act} {Q : Exit → Act → World → Prop}
/-- A key that is not there is deleted. -/
theorem wpList_delete_none (hg : o.guard = none) (m x : Operand) (t : TypeId) (hop : o.op = Op.call { callee := Callee.builtin Builtin.delete, args := #[m, x], argTypes := #[t, k] }) (e : TypeId) (hk : P.underlying k = some (.int .i64)) (ht : P.underlying t = some (.map k e))
    (hm : a.eval m = .map (some b)) (h : MapIs w P k E b n f s) (key : Int) (hf : f key = none) (hx : a.eval x = .int .i64 key) (hw : (Lit.int .i64 key).wf = true)
    (hK : ∀ w', MapIs w' P k E b n f s → w.grownBy w' (some b) → wpList P ops Q rest (a.put o.dst (.tuple #[])) w') : wpList P ops Q (o :: rest) a w := by
  obtain ⟨D, h1, h2, h3, h4⟩ := h
  refine wpList_delete_own w hg m x t k hop e (Maps.int_keyed hk) ht E.R b n D hm h1 _ (.int .i64 key) hx (Maps.keyOf_int_mk hk hw) fun w' o1 g1 => ?_
  have hn : Maps.has D (.int .i64 key) = false := by rw [(h4 key).1, hf]; rfl
  rw [Maps.del_of_not_has hn] at o1
  exact hK w' ⟨D, o1, h2, h3, h4⟩ g1.grown
end
/-- Zero, one .. up to n. -/
def upto (n : Nat) : List Int := (List.range n).map (fun k : Nat => (k : Int))
theorem upto_mem (n : Nat) (x : Int) : x ∈ upto n ↔ 0 ≤ x ∧ x < n := by
  unfold upto
  rw [List.mem_map]
  constructor
  · rintro ⟨k, hk, rfl⟩
    have := List.mem_range.1 hk
    omega
  · rintro ⟨h1, h2⟩
    exact ⟨x.toNat, List.mem_range.2 (by omega), by omega⟩
theorem upto_lt (n : Nat) : (upto n).Pairwise (· < ·) := by
  unfold upto
  rw [List.pairwise_map]
  exact List.pairwise_lt_range.imp (fun h => by omega)
theorem sort_upto {n : Nat} {ss : List Int} (h1 : ss.Nodup) (h2 : ∀ x, x ∈ ss ↔ 0 ≤ x ∧ x < n) : ss.mergeSort (fun x y => decide (x ≤ y)) = upto n := by
  have hn : (upto n).Nodup := (upto_lt n).imp (fun h => by omega)
  have hp : ss.Perm (upto n) := (List.perm_ext_iff_of_nodup h1 hn).2 fun x => (h2 x).trans (upto_mem n x).symm
  refine List.Perm.eq_of_pairwise (le := fun x y : Int => x ≤ y) (fun a b _ _ h h' => Int.le_antisymm h h') ?_ ((upto_lt n).imp (fun h => by omega)) ((List.mergeSort_perm ss _).trans hp)
  have := List.pairwise_mergeSort (le := fun x y : Int => decide (x ≤ y)) (fun a b c h h' => by simp only [decide_eq_true_eq] at *; omega) (fun a b => by simp only [Bool.or_eq_true, decide_eq_true_eq]; omega) ss
  exact this.imp (fun h => by simpa using h)
theorem flat1 (l : List Int) : l.map encZ = l.flatMap (fun x : Int => [.int .i64 x]) := by
  induction l with
  | nil => rfl
  | cons x l ih => rw [List.map_cons, List.flatMap_cons, ih]; rfl
theorem upto_len (n : Nat) : (upto n).length = n := by simp [upto]
/-- The values of the places, sorted. -/
theorem vals_upto {D0 : DataW Unit} {n : Nat} (hf : ∀ x, Maps.has D0 (.int .i64 x) = (pf n x).isSome ∧ ∀ z, D0.atKey (.int .i64 x) z = match pf n x with | some a => eInt.dat a | none => z)
    {ss : List Int} (h : ∃ ps : List (Int × Int), (ps.map (·.1)).Nodup ∧ (∀ x, x ∈ ps.map (·.1) ↔ Maps.has D0 (.int .i64 x) = true) ∧ (∀ p ∈ ps, ValAtI D0 p) ∧ ss = ps.map (·.2)) :
    ss.mergeSort (fun x y => decide (x ≤ y)) = upto n := by
  obtain ⟨ps, h1, h2, h3, rfl⟩ := h
  have hk : ∀ x : Int, x ∈ ps.map (·.1) ↔ 1 ≤ x ∧ x ≤ n := fun x => by
    rw [h2 x, (hf x).1]
    unfold pf
    split <;> simp_all
  have hv : ∀ p ∈ ps, p.2 = p.1 - 1 := fun p hp => by
    have ha := (hk p.1).1 (List.mem_map.2 ⟨p, hp, rfl⟩)
    have e1 := h3 p hp (.lit (.int .i64 0))
    rw [(hf p.1).2] at e1
    unfold pf at e1
    rw [if_pos ha] at e1
    injection e1 with e1
    injection e1 with _ e1
    exact e1.symm
  have he : ps.map (·.2) = (ps.map (·.1)).map (· - 1) := by
    rw [List.map_map]
    exact List.map_congr_left fun p hp => hv p hp
  rw [he]
  refine sort_upto ?_ fun x => ?_
  · unfold List.Nodup at *
    rw [List.pairwise_map]
    exact h1.imp (fun h => by omega)
  · rw [List.mem_map]
    constructor
    · rintro ⟨y, hy, rfl⟩
      have := (hk y).1 hy
      omega
    · intro hx
      exact ⟨x + 1, (hk _).2 (by omega), by omega⟩
def AcRel (w : World) (b n : Nat) (i : Value) (wr : World) : Prop :=
  ∃ k : Nat, k ≤ n ∧ i = .int .i64 k ∧ Below w.heap.size w wr ∧ MapIs wr Try.prog 3 eInt b n (pf n) n
set_option maxRecDepth 100000 in
set_option maxHeartbeats 4000000 in
theorem active_any {w : World} {v : Value} {T : List Tk} (hl : RowIn w v 6 encT T) (hn : T.length ≤ 512) (hT : Num T) :
    Calls Try.prog 51 #[v] w fun e w' => ∃ r, e = .returned (.tuple #[r, .int .i64 0]) ∧ RowIn w' r 1 (fun x : Int => [.int .i64 x]) (upto T.length) ∧ Below w.heap.size w w' := by
  have hpl := places_any hl hn hT
  obtain ⟨sa, cs, rfl, s1, s2, _, hs5⟩ := hl.at_
  unfold maxLen at s2
  have HP := Lib.hid hs5
  have HN := Lib.hid hT
  clear hs5 hl hT
  go_enter Try.func51, Try.ntmps51
  go_wp2_with fail
  refine hpl.mono ?_
  rintro e w1 ⟨b, rfl, hwb, hmp, hbr⟩
  clear hpl
  go_wp2_with fail
  go_loopw [18] (fun i wr => AcRel w b T.length i wr) (fun i _ => (T.length - intOf i).toNat)
  case atStart => exact ⟨0, Nat.zero_le _, rfl, hbr, hmp⟩
  clear hbr hmp
  case round =>
    obtain ⟨k, hk, rfl, hbr, hmp⟩ := hrel
    have hwr := hbr.size
    by_cases hkl : k < T.length
    · have hki : (k : Int) < T.length := by omega
      have hk0 : (0 : Int) ≤ k := by omega
      have hx := getD_of (d := tk0) hkl
      obtain ⟨ob, oo, rfl, hoz, hoc⟩ := HP.out (by rintro rfl; simp at hkl)
      have ec := hoc k _ hx
      have q : ∀ j, wr.cell? ⟨ob, j, none⟩ = w.cell? ⟨ob, j, none⟩ := fun j => hbr.cell (p := ⟨ob, j, none⟩) hoz
      have hid := HN.out.id _ hkl
      have hrp := HN.out.rp _ hkl
      clear hx hoc
      generalize T.getD k tk0 = x at *
      obtain ⟨id, sc, tm, gross, tare, rep⟩ := x
      dsimp only at hid hrp
      subst hid hrp
      have e0 : World.cell? wr ⟨ob, oo + k * 6, none⟩ = some (.int .i64 ((k : Int) + 1)) := (q _).trans (ec 0 (by omega))
      have e1 : World.cell? wr ⟨ob, oo + k * 6 + 1, none⟩ = some (.int .i64 sc) := (q _).trans (ec 1 (by omega))
      have e2 : World.cell? wr ⟨ob, oo + k * 6 + 2, none⟩ = some (.int .i64 tm) := (q _).trans (ec 2 (by omega))
      have e3 : World.cell? wr ⟨ob, oo + k * 6 + 3, none⟩ = some (.int .i64 gross) := (q _).trans (ec 3 (by omega))
      have e4 : World.cell? wr ⟨ob, oo + k * 6 + 4, none⟩ = some (.int .i64 tare) := (q _).trans (ec 4 (by omega))
      have e5 : World.cell? wr ⟨ob, oo + k * 6 + 5, none⟩ = some (.int .i64 0) := (q _).trans (ec 5 (by omega))
      clear ec q
      have hbx : Below wr.heap.size wr (wr.alloc (.cells #[.int .i64 ((k : Int) + 1), .int .i64 sc, .int .i64 tm, .int .i64 gross, .int .i64 tare, .int .i64 0] 63)) := by repeat (first | (with_reducible exact Below.refl _ _) | (with_reducible assumption) | (with_reducible refine Below.drew ?_) | ((with_reducible refine Below.alloc ?_ ?_ _); rotate_left; (first | (with_reducible exact Nat.zero_le _) | (with_reducible exact Nat.le_refl _) | omega | (dsimp only; omega) | (simp only [World.size_alloc, World.size_setCell, World.size_drew]; omega))) | ((with_reducible refine Below.setCell ?_ ?_ _); rotate_left; (first | (with_reducible exact Nat.zero_le _) | (with_reducible exact Nat.le_refl _) | omega | (dsimp only; omega) | (simp only [World.size_alloc, World.size_setCell, World.size_drew]; omega))))
      have hbz := hbr.trans (hbx.mono hwr)
      have hmz := hmp.step hbx
      have hf0 : pf T.length 0 = none := by unfold pf; rw [if_neg (by omega)]
      have hw0 := wfI (z := 0) (by omega) (by omega)
      have HF0 := Lib.hid hf0
      clear hmp hbr hf0
      go_wp2_with (at_delete; refine wpList_delete_none rfl _ _ 101 rfl 3 Try.underlying3 Try.underlying101 rfl hmz 0 HF0.out rfl hw0 ?_; intro w6 hm6 hg6)
      have hb6 := Below.grown hbz hg6 hbz.size (fun j hj => by cases hj; exact hwb)
      clear hg6
      go_roundw
      case rel => exact ⟨k + 1, hkl, by simp, hb6, hm6⟩
      case measure => simp [intOf]; omega
    · obtain rfl : k = T.length := by omega
      clear hkl hk
      go_wp2_with fail
      refine (values_any _ _).mono ?_
      rintro e w3 ⟨rfl, rfl⟩
      obtain ⟨D0, hown, htd, hsz, hf⟩ := hmp
      have hbx : Below wr.heap.size wr (wr.alloc (.cells #[.map (some b)] 101)) := (Below.refl _ _).alloc (Nat.le_refl _) _
      have BM := Blk.new wr 101 #[.map (some b)]
      have hso := sorted_any wr.heap.size b T.length D0 (wr.alloc (.cells #[.map (some b)] 101)) (by simp) (BM.cell 0) (hown.alloc _) (by omega)
      go_wp2_with fail
      refine hso.mono ?_
      rintro e w4 ⟨r, ss, rfl, hps, hrow, hb4⟩
      have hss := vals_upto (n := T.length) (fun x => ⟨(hf x).1, fun z => by rw [(hf x).2 z]; cases pf T.length x <;> rfl⟩) hps
      rw [hss] at hrow
      go_wp2_with fail
      have hlen : ss.length = (upto T.length).length := by rw [← hss, List.length_mergeSort]
      rw [hlen, flat1] at hrow
      refine bodyPost_ret (v := .tuple #[r, .int .i64 0]) (by simp only [results, Try.results51]; go_simp; first | done | rfl) rfl ?_
      exact ⟨_, rfl, RowIn.of_own (fun _ => rfl) hrow, hbr.trans ((hbx.trans (hb4.mono hbx.size)).mono hbr.size)⟩
def TcRel (w : World) (n : Nat) (i : Value) (wr : World) : Prop := ∃ k : Nat, k ≤ n ∧ i = .int .i64 k ∧ Below w.heap.size w wr
set_option maxRecDepth 100000 in
set_option maxHeartbeats 4000000 in
theorem tcheck_any {w : World} {vs v : Value} {S : List Sc} {T : List Tk} (hs : RowIn w vs 6 encS S) (hm : S.length ≤ 16) (hok : ∀ s ∈ S, chkS s = 0) (hl : RowIn w v 6 encT T) (hn : T.length ≤ 512) (hT : Num T)
    (hx : ∀ x ∈ T, TkOk S x ∧ x.tare ≤ x.gross) : Calls Try.prog 50 #[vs, v] w fun e w' => e = .returned (.int .i64 0) ∧ Below w.heap.size w w' := by
  have h1 := tscales_any hs hm hok
  have h2 := fun (x : Tk) (hx2 : TkOk S x ∧ x.tare ≤ x.gross) (w1 : World) (h : Below w.heap.size w w1) => weighed_any (hs.step h) hx2.1 hx2.2
  have h3 := fun (w1 : World) (h : Below w.heap.size w w1) => places_any (hl.step h) hn hT
  obtain ⟨sa, cs, rfl, s1, s2, _, hs5⟩ := hl.at_
  unfold maxLen at s2
  have HP := Lib.hid hs5
  have H2 := Lib.hid h2
  have H3 := Lib.hid h3
  have HX := Lib.hid hx
  have hn' : ¬ (T.length : Int) > 512 := by omega
  clear hs5 hl hs hok h2 h3 hT hx
  go_enter Try.func50, Try.ntmps50
  go_wp2_with fail
  refine h1.mono ?_
  rintro e w1 ⟨rfl, hb⟩
  clear h1
  go_wp2_with fail
  go_loopw [23] (fun i wr => TcRel w T.length i wr) (fun i _ => (T.length - intOf i).toNat)
  case atStart => exact ⟨0, Nat.zero_le _, rfl, hb⟩
  clear hb
  case round =>
    obtain ⟨k, hk, rfl, hbr⟩ := hrel
    have hwr := hbr.size
    by_cases hkl : k < T.length
    · have hki : (k : Int) < T.length := by omega
      have hk0 : (0 : Int) ≤ k := by omega
      have hx := getD_of (d := tk0) hkl
      obtain ⟨ob, oo, rfl, hoz, hoc⟩ := HP.out (by rintro rfl; simp at hkl)
      have ec := hoc k _ hx
      have q : ∀ j, wr.cell? ⟨ob, j, none⟩ = w.cell? ⟨ob, j, none⟩ := fun j => hbr.cell (p := ⟨ob, j, none⟩) hoz
      have hwe := H2.out _ (HX.out _ (List.mem_of_getElem? hx))
      clear hx hoc
      generalize T.getD k tk0 = x at *
      generalize gT S x = g at *
      generalize tT S x = t at *
      obtain ⟨id, sc, tm, gross, tare, rep⟩ := x
      dsimp only at hwe
      have e0 : World.cell? wr ⟨ob, oo + k * 6, none⟩ = some (.int .i64 id) := (q _).trans (ec 0 (by omega))
      have e1 : World.cell? wr ⟨ob, oo + k * 6 + 1, none⟩ = some (.int .i64 sc) := (q _).trans (ec 1 (by omega))
      have e2 : World.cell? wr ⟨ob, oo + k * 6 + 2, none⟩ = some (.int .i64 tm) := (q _).trans (ec 2 (by omega))
      have e3 : World.cell? wr ⟨ob, oo + k * 6 + 3, none⟩ = some (.int .i64 gross) := (q _).trans (ec 3 (by omega))
      have e4 : World.cell? wr ⟨ob, oo + k * 6 + 4, none⟩ = some (.int .i64 tare) := (q _).trans (ec 4 (by omega))
      have e5 : World.cell? wr ⟨ob, oo + k * 6 + 5, none⟩ = some (.int .i64 rep) := (q _).trans (ec 5 (by omega))
      clear ec q
      have hbx : Below wr.heap.size wr (wr.alloc (.cells #[.int .i64 id, .int .i64 sc, .int .i64 tm, .int .i64 gross, .int .i64 tare, .int .i64 rep] 63)) := by repeat (first | (with_reducible exact Below.refl _ _) | (with_reducible assumption) | (with_reducible refine Below.drew ?_) | ((with_reducible refine Below.alloc ?_ ?_ _); rotate_left; (first | (with_reducible exact Nat.zero_le _) | (with_reducible exact Nat.le_refl _) | omega | (dsimp only; omega) | (simp only [World.size_alloc, World.size_setCell, World.size_drew]; omega))) | ((with_reducible refine Below.setCell ?_ ?_ _); rotate_left; (first | (with_reducible exact Nat.zero_le _) | (with_reducible exact Nat.le_refl _) | omega | (dsimp only; omega) | (simp only [World.size_alloc, World.size_setCell, World.size_drew]; omega))))
      have hbz := hbr.trans (hbx.mono hwr)
      have HWE := Lib.hid (hwe _ hbz)
      clear hbr hwe
      go_wp2_with fail
      refine HWE.out.mono ?_
      rintro e w5 ⟨rfl, hb5⟩
      have hb6 := hbz.trans (hb5.mono hbz.size)
      have hz6 := hb6.size
      go_wp2_with fail
      go_roundw
      case rel => exact ⟨k + 1, hkl, by simp, by repeat (first | (with_reducible exact Below.refl _ _) | (with_reducible assumption) | (with_reducible refine Below.drew ?_) | ((with_reducible refine Below.alloc ?_ ?_ _); rotate_left; (first | (with_reducible exact Nat.zero_le _) | (with_reducible exact Nat.le_refl _) | omega | (dsimp only; omega) | (simp only [World.size_alloc, World.size_setCell, World.size_drew]; omega))) | ((with_reducible refine Below.setCell ?_ ?_ _); rotate_left; (first | (with_reducible exact Nat.zero_le _) | (with_reducible exact Nat.le_refl _) | omega | (dsimp only; omega) | (simp only [World.size_alloc, World.size_setCell, World.size_drew]; omega))))⟩
      case measure => simp [intOf]; omega
    · obtain rfl : k = T.length := by omega
      clear hkl hk
      go_wp2_with fail
      refine (H3.out _ hbr).mono ?_
      rintro e w3 ⟨b, rfl, hwb, hmp, hb3⟩
      go_wp2_with fail
      go_ret
      exact ⟨rfl, hbr.trans (hb3.mono hbr.size)⟩

end Go.Proofs.Ytapfihlfnaebhaa
