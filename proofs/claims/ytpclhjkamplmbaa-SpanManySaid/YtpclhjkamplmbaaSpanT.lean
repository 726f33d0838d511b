/- The law SpanMany: the walk. -/
import Derived.Test.YtpclhjkamplmbaaSpanS
import Derived.OwnWalk
namespace Go.Proofs.Ytpclhjkamplmbaa
set_option linter.unusedVariables false
set_option linter.unusedSimpArgs false
open Go.RowKit

def ManyRel (w : World) (g n : Nat) (s : Sp) (i : Value) (wr : World) : Prop :=
  ∃ (k : Nat) (cur : Array Value), k ≤ n ∧ i = .int .i64 k ∧ Below w.heap.size w wr ∧ Blk wr w.heap.size 23 #[.int .i64 s.lo, .int .i64 s.hi] ∧ Blk wr g 23 cur ∧ cur.size = n * 2 ∧ ∀ j, j < k → cur[j * 2]? = some (.int .i64 s.lo) ∧ cur[j * 2 + 1]? = some (.int .i64 s.hi)
theorem many_step {cur : Array Value} {n k : Nat} {a b : Value} (hs : cur.size = n * 2) (hk : k < n) (h : ∀ j, j < k → cur[j * 2]? = some a ∧ cur[j * 2 + 1]? = some b) :
    ∀ j, j < k + 1 → ((cur.setIfInBounds (k * 2) a).setIfInBounds (k * 2 + 1) b)[j * 2]? = some a ∧ ((cur.setIfInBounds (k * 2) a).setIfInBounds (k * 2 + 1) b)[j * 2 + 1]? = some b := by
  intro j hj
  have h1 : k * 2 < cur.size := by omega
  have h2 : k * 2 + 1 < cur.size := by omega
  by_cases he : j = k
  · subst he
    constructor
    · rw [Array.getElem?_setIfInBounds, if_neg (by omega), Array.getElem?_setIfInBounds, if_pos rfl, if_pos h1]
    · rw [Array.getElem?_setIfInBounds, if_pos rfl, if_pos (by simpa using h2)]
  · obtain ⟨q1, q2⟩ := h j (by omega)
    constructor
    · rw [Array.getElem?_setIfInBounds, if_neg (by omega), Array.getElem?_setIfInBounds, if_neg (by omega), q1]
    · rw [Array.getElem?_setIfInBounds, if_neg (by omega), Array.getElem?_setIfInBounds, if_neg (by omega), q2]
theorem many_row {w : World} {g n : Nat} {t : TypeId} {cur : Array Value} {s : Sp} (hB : Blk w g t cur) (hm : n ≤ maxLen) (h : ∀ j, j < n → cur[j * 2]? = some (.int .i64 s.lo) ∧ cur[j * 2 + 1]? = some (.int .i64 s.hi)) :
    RowIn w (.slice (some ⟨g, 0, none⟩) n n) 2 encP (List.replicate n s) := by
  refine ⟨some ⟨g, 0, none⟩, n, by simp, by simp, hm, by simp, fun _ => ⟨g, 0, rfl, hB.lt, fun k x hx j hj => ?_⟩⟩
  have hk : k < n := by simpa using (List.getElem?_eq_some_iff.1 hx).1
  have hx' : x = s := by simpa [hk] using hx.symm
  subst hx'
  obtain ⟨q1, q2⟩ := h k hk
  rw [hB.cell]
  match j, hj with
  | 0, _ => rw [Nat.zero_add, Nat.add_zero, q1]; rfl
  | 1, _ => rw [Nat.zero_add, q2]; rfl

set_option maxRecDepth 100000 in
set_option maxHeartbeats 4000000 in
theorem law4 (s : Sp) (m : Int) (hm0 : 0 ≤ m) (hm1 : m ≤ 255) (w : World) : Calls Try.prog 6 #[.agg #[.int .i64 (s).lo, .int .i64 (s).hi], .int .u8 m] w fun e w' => e = .returned (.bool true) ∧ Below w.heap.size w w' := by
  obtain ⟨ti, hi, hz, hsi, hby⟩ := info_of (P := Try.prog) (t := 23) (z := .agg #[.int .i64 0, .int .i64 0]) (size := 2) (bytes := 16) (by kernel_rfl)
  have BS := Blk.new w 23 #[.int .i64 s.lo, .int .i64 s.hi]
  have hb0 : Below w.heap.size w (w.alloc (.cells #[.int .i64 s.lo, .int .i64 s.hi] 23)) := by repeat (first | (with_reducible exact Below.refl _ _) | (with_reducible assumption) | (with_reducible refine Below.drew ?_) | ((with_reducible refine Below.alloc ?_ ?_ _); rotate_left; (first | (with_reducible exact Nat.zero_le _) | (with_reducible exact Nat.le_refl _) | omega | (dsimp only; omega) | (simp only [World.size_alloc, World.size_setCell, World.size_drew]; omega))) | ((with_reducible refine Below.setCell ?_ ?_ _); rotate_left; (first | (with_reducible exact Nat.zero_le _) | (with_reducible exact Nat.le_refl _) | omega | (dsimp only; omega) | (simp only [World.size_alloc, World.size_setCell, World.size_drew]; omega))))
  obtain ⟨N, hN⟩ : ∃ N : Nat, (65535 + m % 3 : Int) = N := ⟨(65535 + m % 3).toNat, by omega⟩
  have hN1 : N ≤ 65537 := by omega
  go_enter Try.func6, Try.ntmps6
  go_wp2_with (refine wpList_make_full _ rfl _ _ 31 rfl (w.heap.size + 1) 23 ti (.agg #[.int .i64 0, .int .i64 0]) 2 Try.underlying31 hi hz hsi .i64 .i64 _ _ N rfl rfl rfl rfl (by rw [hby]; omega) (by unfold maxLen; omega) (by simp) ?_; intro w1 own1 hg1)
  have hb1 : Below w.heap.size w w1 := Below.grown hb0 hg1 (by simp) (fun j hj => by cases hj)
  have BS1 := Blk.grown BS hg1 (by simp)
  rcases ownsRow_open own1 with ⟨q, _⟩ | ⟨g, cap, cur, hv, hbg, BC, hnc, hcm, hcs, _⟩
  · cases q
  simp only [World.size_alloc, Value.slice.injEq, Option.some.injEq, Addr.mk.injEq, and_true, true_and] at hv
  obtain ⟨rfl, rfl⟩ := hv
  clear own1 hg1 BS hb0 hnc hbg
  go_loopw [6] (fun i wr => ManyRel w (w.heap.size + 1) N s i wr) (fun i _ => (N - intOf i).toNat)
  case atStart => exact ⟨0, cur, Nat.zero_le _, rfl, hb1, BS1, BC, hcs, fun j hj => absurd hj (Nat.not_lt_zero _)⟩
  case round =>
    clear hb1 BS1 BC hcs
    obtain ⟨k, cur, hk, rfl, hb, BS, BC, hcs, hcells⟩ := hrel
    have HC := Lib.hid hcells
    clear hcells
    have cS := BS.cell
    have lS := BS.lt
    have lC := BC.lt
    by_cases hlt : k < N
    · have hkn : (k : Int) < N := by omega
      have hk0 : (0 : Int) ≤ k := by omega
      have e0 : World.cell? wr ⟨w.heap.size + 1, k * 2, none⟩ = some (cur[k * 2]'(by omega)) := (BC.cell _).trans (Array.getElem?_eq_getElem (by omega))
      have e1 : World.cell? wr ⟨w.heap.size + 1, k * 2 + 1, none⟩ = some (cur[k * 2 + 1]'(by omega)) := (BC.cell _).trans (Array.getElem?_eq_getElem (by omega))
      have f0 := BC.free (k * 2)
      have f1 := BC.free (k * 2 + 1)
      go_wp2_with fail
      go_roundw
      case rel => exact ⟨k + 1, _, hlt, by simp, (hb.setCell (by simp) _).setCell (by simp) _, (BS.far (by simp) _).far (by simp) _, (BC.put (k * 2) _).put (k * 2 + 1) _, by simpa using hcs, many_step hcs hlt HC.out⟩
      case measure => simp [intOf]; omega
    · obtain rfl : k = N := by omega
      have hl := many_row BC (by unfold maxLen; omega) HC.out
      generalize hgW : w.heap.size + 1 = gW at *
      clear hgW BC BS cS lS lC
      have h1 := fun w h => sumL_any (w := w) (v := .slice (some ⟨gW, 0, none⟩) k k) (l := List.replicate k s) h
      have h2 := fun w h => rsumL_any (w := w) (v := .slice (some ⟨gW, 0, none⟩) k k) (l := List.replicate k s) h
      generalize sumS (List.replicate k s) = S1 at *
      generalize sumE (List.replicate k s) = E1 at *
      go_wp2_with fail
      refine (h1 _ hl).mono ?_
      rintro e w1 ⟨rfl, hb1⟩
      replace hl := hl.step hb1
      replace hb := hb.trans (hb1.mono hb.size)
      go_wp2_with fail
      have C1 := Blk.new w1 23 #[.int .i64 S1.lo, .int .i64 S1.hi]
      replace hl := hl.step (Below.alloc (Below.refl _ _) (Nat.le_refl _) (.cells #[.int .i64 S1.lo, .int .i64 S1.hi] 23))
      replace hb := hb.alloc hb.size (.cells #[.int .i64 S1.lo, .int .i64 S1.hi] 23)
      refine (h2 _ hl).mono ?_
      rintro e w2 ⟨rfl, hb2⟩
      replace C1 := C1.step hb2
      replace hl := hl.step hb2
      replace hb := hb.trans (hb2.mono hb.size)
      have cC1 := C1.cell
      have lC1 := C1.lt
      go_wp2_with fail
      clear cC1 lC1
      replace hb := hb.alloc hb.size (.cells #[.int .i64 S1.lo, .int .i64 S1.hi] 23)
      refine (awake_any _).mono ?_
      rintro e wa ⟨rfl, hba⟩
      go_wp2_with fail
      go_ret
      exact ⟨by simp, hb.trans (hba.mono hb.size)⟩

end Go.Proofs.Ytpclhjkamplmbaa
