/- Contract: whether a set meets all conflicts; the walk of CalibrateSuspects. -/
import Derived.Test.YtpjdoopcjdbefaaCalY
namespace Go.Proofs.Ytpjdoopcjdbefaa
set_option linter.unusedVariables false
set_option linter.unusedSimpArgs false
open Go.RowKit

/-- The cells of a row of bools. -/
def bools (l : List Bool) : Array Value := (l.map Value.bool).toArray
theorem bools_get {l : List Bool} {i : Nat} {x : Bool} (h : l[i]? = some x) : (bools l)[i]? = some (.bool x) := by simp [bools, h]
theorem bools_set (l : List Bool) (i : Nat) (x : Bool) : (bools l).setIfInBounds i (.bool x) = bools (l.set i x) := by simp [bools, List.map_set]
theorem bools_made (n : Nat) : madeCells #[.bool false] n = bools (List.replicate n false) := by
  refine Array.ext (by simp [bools, madeCells]) fun i h1 h2 => ?_
  have hi : i < n := by simpa [madeCells] using h1
  simp [bools, madeCells, Nat.mod_one]
theorem Blk.setb {w : World} {g : Nat} {t : TypeId} {l : List Bool} (h : Blk w g t (bools l)) (i : Nat) (x : Bool) : Blk (w.setCell ⟨g, i, none⟩ (.bool x)) g t (bools (l.set i x)) := by
  have := h.put i (.bool x)
  rwa [bools_set] at this
theorem Blk.getb {w : World} {g : Nat} {t : TypeId} {l : List Bool} (h : Blk w g t (bools l)) {i : Nat} {x : Bool} (hi : l[i]? = some x) : w.cell? ⟨g, i, none⟩ = some (.bool x) := (h.cell i).trans (bools_get hi)
/-- A set as a row of n bools. -/
def rowB (n : Nat) (T : Nat → Bool) : List Bool := (List.range n).map T
theorem rowB_get {n i : Nat} (T : Nat → Bool) (h : i < n) : (rowB n T)[i]? = some (T i) := by simp [rowB, h]
theorem rowB_set {n i : Nat} (T : Nat → Bool) (b : Bool) : (rowB n T).set i b = rowB n (fun j => if j = i then b else T j) := by
  refine List.ext_getElem (by simp [rowB]) fun j h1 h2 => ?_
  simp only [List.getElem_set, rowB, List.getElem_map, List.getElem_range]
  by_cases e : i = j
  · rw [if_pos e, if_pos e.symm]
  · rw [if_neg e, if_neg fun h => e h.symm]
theorem rowB_zero (n : Nat) : List.replicate n false = rowB n (fun _ => false) := by
  refine List.ext_getElem (by simp [rowB]) fun j h1 h2 => by simp [rowB]
theorem rowB_congr {n : Nat} {T U : Nat → Bool} (h : ∀ i, i < n → T i = U i) : rowB n T = rowB n U := by
  refine List.ext_getElem (by simp [rowB]) fun j h1 h2 => ?_
  have : j < n := by simpa [rowB] using h1
  simp [rowB, h j this]

def MtRel (w : World) (T : Nat → Bool) (C : List (Nat × Nat)) (i : Value) (wr : World) : Prop := ∃ k : Nat, k ≤ C.length ∧ i = .int .i64 k ∧ covS (C.take k) T = true ∧ Below w.heap.size w wr
theorem covS_stop {T : Nat → Bool} {C : List (Nat × Nat)} {k : Nat} {p : Nat × Nat} (h : C[k]? = some p) (hp : (T p.1 || T p.2) = false) : covS C T = false := by
  unfold covS
  rw [List.all_eq_false]
  exact ⟨p, List.mem_of_getElem? h, by rw [hp]; simp⟩
set_option maxRecDepth 100000 in
set_option maxHeartbeats 8000000 in
theorem meets_any {w : World} {g : Nat} {vl vc : Value} {S : List Sc} {l : List Pr} (T : Nat → Bool) (hg : Blk w g 4 (bools (rowB S.length T))) (hn : S.length ≤ 16) (hl : RowIn w vl 5 encQ l) (hc : RowIn w vc 1 encN (conL S l)) :
    Calls Try.prog 20 #[.slice (some ⟨g, 0, none⟩) S.length S.length, vl, vc] w fun e w' => e = .returned (.bool (covS (conP S l) T)) ∧ Below w.heap.size w w' := by
  have HC := Lib.hid fun i hi => conL_mem (S := S) (l := l) (i := i) hi
  have hP : conP S l = (conL S l).map fun i => ((l.getD i pr0).a.toNat, (l.getD i pr0).b.toNat) := rfl
  generalize conP S l = CP at *
  generalize conL S l = C at *
  have HP := Lib.hid hP
  clear hP
  have hcl : CP.length = C.length := by rw [HP.out]; simp
  obtain ⟨la, cl, rfl, l1, l2, _, hl5⟩ := hl.at_
  obtain ⟨ca, cc, rfl, c1, c2, _, hc5⟩ := hc.at_
  unfold maxLen at l2 c2
  have HL := Lib.hid hl5
  have HR := Lib.hid hc5
  clear hl5 hc5 hl hc
  go_enter Try.func20, Try.ntmps20
  go_wp2_with fail
  go_loopw [12] (fun i wr => MtRel w T CP i wr) (fun i _ => (C.length - intOf i).toNat)
  case atStart => exact ⟨0, Nat.zero_le _, rfl, rfl, Below.refl _ _⟩
  case round =>
    obtain ⟨k, hk, rfl, hok, hbr⟩ := hrel
    have hwr := hbr.size
    have hgr := hg.step hbr
    by_cases hkl : k < CP.length
    · have hkc : k < C.length := by omega
      have hki : (k : Int) < C.length := by omega
      obtain ⟨ob, oo, hoo, hoz, hoc⟩ := HR.out (by rintro rfl; simp at hkc)
      subst hoo
      have hx := getD_of (d := 0) hkc
      have e0 : World.cell? wr ⟨ob, oo + k, none⟩ = some (.int .i64 ((C.getD k 0 : Nat) : Int)) := by
        have := hoc k _ hx 0 (by omega)
        rw [Nat.mul_one, Nat.add_zero] at this
        exact (hbr.cell (p := ⟨ob, oo + k, none⟩) hoz).trans this
      obtain ⟨_, hil, hpe⟩ := HC.out _ (List.mem_of_getElem? hx)
      have hpr := prE_ok hpe
      have hcp : CP[k]? = some ((l.getD (C.getD k 0) pr0).a.toNat, (l.getD (C.getD k 0) pr0).b.toNat) := by rw [HP.out, List.getElem?_map, hx]; rfl
      obtain ⟨lb, lo, hlo, hlz, hlc⟩ := HL.out (by rintro rfl; simp at hil)
      subst hlo
      generalize C.getD k 0 = q at *
      have hq := hlc q _ (getD_of (d := pr0) hil)
      have hstep := covS_take (S := T) hcp
      have hstop := covS_stop (T := T) hcp
      have q0 : (0 : Int) ≤ q ∧ (q : Int) < l.length := by omega
      obtain ⟨q0, q1⟩ := q0
      generalize l.getD q pr0 = x at *
      obtain ⟨pa, pb, ps, pt, tm⟩ := x
      dsimp only at *
      obtain ⟨p1, p2, p3, p4, _⟩ := hpr
      obtain ⟨A, rfl⟩ : ∃ A : Nat, pa = A := ⟨pa.toNat, by omega⟩
      obtain ⟨B, rfl⟩ : ∃ B : Nat, pb = B := ⟨pb.toNat, by omega⟩
      have m0 : World.cell? wr ⟨lb, lo + q * 5, none⟩ = some (.int .i64 (A : Int)) := (hbr.cell (p := ⟨lb, lo + q * 5, none⟩) hlz).trans (hq 0 (by omega))
      have m1 : World.cell? wr ⟨lb, lo + q * 5 + 1, none⟩ = some (.int .i64 (B : Int)) := (hbr.cell (p := ⟨lb, lo + q * 5 + 1, none⟩) hlz).trans (hq 1 (by omega))
      have m2 : World.cell? wr ⟨lb, lo + q * 5 + 2, none⟩ = some (.int .i64 ps) := (hbr.cell (p := ⟨lb, lo + q * 5 + 2, none⟩) hlz).trans (hq 2 (by omega))
      have m3 : World.cell? wr ⟨lb, lo + q * 5 + 3, none⟩ = some (.int .i64 pt) := (hbr.cell (p := ⟨lb, lo + q * 5 + 3, none⟩) hlz).trans (hq 3 (by omega))
      have m4 : World.cell? wr ⟨lb, lo + q * 5 + 4, none⟩ = some (.int .i64 tm) := (hbr.cell (p := ⟨lb, lo + q * 5 + 4, none⟩) hlz).trans (hq 4 (by omega))
      rw [Int.toNat_natCast, Int.toNat_natCast] at hstep hstop
      rw [hok, Bool.true_and] at hstep
      have gA := hgr.getb (rowB_get T (show A < S.length by omega))
      have gB := hgr.getb (rowB_get T (show B < S.length by omega))
      have hbx : Below wr.heap.size wr (wr.alloc (.cells #[.int .i64 (A : Int), .int .i64 (B : Int), .int .i64 ps, .int .i64 pt, .int .i64 tm] 44)) := by repeat (first | (with_reducible exact Below.refl _ _) | (with_reducible assumption) | (with_reducible refine Below.drew ?_) | ((with_reducible refine Below.alloc ?_ ?_ _); rotate_left; (first | (with_reducible exact Nat.zero_le _) | (with_reducible exact Nat.le_refl _) | omega | (dsimp only; omega) | (simp only [World.size_alloc, World.size_setCell, World.size_drew]; omega))) | ((with_reducible refine Below.setCell ?_ ?_ _); rotate_left; (first | (with_reducible exact Nat.zero_le _) | (with_reducible exact Nat.le_refl _) | omega | (dsimp only; omega) | (simp only [World.size_alloc, World.size_setCell, World.size_drew]; omega))))
      have hbz := hbr.trans (hbx.mono hwr)
      have lg := hgr.lt
      clear hq hcp hx hoc hlc hpe hok
      cases hsA : T A with
      | true =>
        rw [hsA] at gA
        have HST := Lib.hid (hstep.trans (by rw [hsA, Bool.true_or]))
        clear hstep hstop hsA
        go_wp2_with fail
        go_roundw
        case rel => exact ⟨k + 1, hkl, by simp, HST.out, hbz⟩
        case measure => simp [intOf]; omega
      | false =>
        rw [hsA] at gA hstep hstop
        cases hsB : T B with
        | true =>
          rw [hsB] at gB hstep
          have HST := Lib.hid hstep
          clear hstep hstop hsA hsB
          go_wp2_with fail
          go_roundw
          case rel => exact ⟨k + 1, hkl, by simp, HST.out, hbz⟩
          case measure => simp [intOf]; omega
        | false =>
          rw [hsB] at gB hstop
          have HST := Lib.hid (hstop rfl)
          clear hstep hstop hsA hsB
          go_wp2_with fail
          go_ret
          exact ⟨by rw [HST.out]; rfl, hbz⟩
    · obtain rfl : k = CP.length := by omega
      rw [List.take_length] at hok
      have HOK := Lib.hid hok
      clear hok
      go_wp2_with fail
      go_ret
      exact ⟨by rw [HOK.out]; rfl, hbr⟩

end Go.Proofs.Ytpjdoopcjdbefaa
