/- The walk of BalanceExact. -/
import Derived.Test.YthaoclocachbaaaBalN
import Derived.Test.YthaoclocachbaaaBalT
namespace Go.Proofs.Ythaoclocachbaaa
set_option linter.unusedVariables false
set_option linter.unusedSimpArgs false
open Go.RowKit

set_option maxRecDepth 100000 in
set_option maxHeartbeats 4000000 in
theorem law_exact {w : World} {vo vl vc : Value} (n : Int) {o : List Sp} {l : List Tr} {c : List Sp} (ho : RowIn w vo 2 encP o) (hl : RowIn w vl 4 encR l) (hc : RowIn w vc 2 encP c) :
    Calls Try.prog 3 #[.agg #[.int .i64 n, vo, vl, vc]] w fun e w' => e = .returned (.bool true) ∧ Below w.heap.size w w' := by
  have hb : Below w.heap.size w (w.alloc (.cells #[.int .i64 n, vo, vl, vc] 25)) := by repeat (first | (with_reducible exact Below.refl _ _) | (with_reducible assumption) | (with_reducible refine Below.drew ?_) | ((with_reducible refine Below.alloc ?_ ?_ _); rotate_left; (first | (with_reducible exact Nat.zero_le _) | (with_reducible exact Nat.le_refl _) | omega | (dsimp only; omega) | (simp only [World.size_alloc, World.size_setCell, World.size_drew]; omega))) | ((with_reducible refine Below.setCell ?_ ?_ _); rotate_left; (first | (with_reducible exact Nat.zero_le _) | (with_reducible exact Nat.le_refl _) | omega | (dsimp only; omega) | (simp only [World.size_alloc, World.size_setCell, World.size_drew]; omega))))
  have BX := Blk.new w 25 #[.int .i64 n, vo, vl, vc]
  have hck := fun w' (h : Below w.heap.size w w') => rcheckA_any (w := w') n (ho.step h) (hl.step h) (hc.step h)
  have has := fun w' (h : Below w.heap.size w w') => assign_any (w := w') n (ho.step h) (hl.step h) (hc.step h)
  have hrh := fun w' vm ms (h : Below w.heap.size w w') (hm : RowIn w' vm 1 (fun x : Int => [.int .i64 x]) ms) => rholds_any (w := w') n (ho.step h) (hl.step h) (hc.step h) hm
  by_cases h0 : bchkA n o l c = 0
  · obtain ⟨hA0, hcl, hcv⟩ := bchkA_ok h0
    have hB := bchk_ok hA0
    have hn1 := hB.n1
    obtain ⟨N, rfl⟩ : ∃ N : Nat, n = N := ⟨n.toNat, by omega⟩
    have hcl' : c.length = N := by omega
    have hfe := fun w' (h : Below w.heap.size w w') => rfeasible_any (w := w') (n := N) (ho.step h) (hl.step h) (hc.step h) hB hcl' hcv
    rw [h0] at hck
    cases hf : feasB N o l c with
    | false =>
      have hE := tightE_no (n := N) h0 (by rw [Int.toNat_natCast]; exact hf)
      unfold AsgOut at has
      rw [hE] at has
      rw [hf] at hfe
      have HAS := Lib.hid has
      clear hE hf h0 hA0 hB hcl hcl' hcv has ho hl hc
      go_enter Try.func3, Try.ntmps3
      have cx := BX.cell
      have lx := BX.lt
      go_wp2_with fail
      clear cx lx
      refine (hck _ hb).mono ?_
      rintro e w1 ⟨rfl, hb1⟩
      replace BX := BX.step hb1
      replace hb := hb.trans (hb1.mono hb.size)
      have cx := BX.cell
      have lx := BX.lt
      go_wp2_with fail
      clear cx lx
      refine (hfe _ hb).mono ?_
      rintro e w2 ⟨rfl, hb2⟩
      replace BX := BX.step hb2
      replace hb := hb.trans (hb2.mono hb.size)
      have cx := BX.cell
      have lx := BX.lt
      go_wp2_with fail
      clear cx lx
      refine (HAS.out _ hb).mono ?_
      rintro e w3 ⟨hb3, v, ms, rfl, hm, hms, _⟩
      obtain rfl := hms (by decide)
      obtain ⟨oa, cap, rfl, _, _, _, _⟩ := hm.at_
      replace BX := BX.step hb3
      replace hb := hb.trans (hb3.mono hb.size)
      have cx := BX.cell
      have lx := BX.lt
      go_wp2_with fail
      clear cx lx
      refine (example_any _).mono ?_
      rintro e w4 ⟨rfl, hb4⟩
      go_wp2_with fail
      go_ret
      exact ⟨rfl, hb.trans (hb4.mono hb.size)⟩
    | true =>
      have hE := tightE_ok (n := N) h0 (by rw [Int.toNat_natCast]; exact hf)
      unfold AsgOut at has
      rw [hE] at has
      rw [hf] at hfe
      have HAS := Lib.hid has
      clear hE hf h0 hA0 hB hcl hcl' hcv has ho hl hc
      go_enter Try.func3, Try.ntmps3
      have cx := BX.cell
      have lx := BX.lt
      go_wp2_with fail
      clear cx lx
      refine (hck _ hb).mono ?_
      rintro e w1 ⟨rfl, hb1⟩
      replace BX := BX.step hb1
      replace hb := hb.trans (hb1.mono hb.size)
      have cx := BX.cell
      have lx := BX.lt
      go_wp2_with fail
      clear cx lx
      refine (hfe _ hb).mono ?_
      rintro e w2 ⟨rfl, hb2⟩
      replace BX := BX.step hb2
      replace hb := hb.trans (hb2.mono hb.size)
      have cx := BX.cell
      have lx := BX.lt
      go_wp2_with fail
      clear cx lx
      refine (HAS.out _ hb).mono ?_
      rintro e w3 ⟨hb3, v, ms, rfl, hm, _, hms⟩
      have hh := hms (by first | trivial | rfl)
      replace BX := BX.step hb3
      replace hb := hb.trans (hb3.mono hb.size)
      have hrh2 := hrh _ _ _ hb hm
      rw [hh] at hrh2
      clear hh hms
      have cx := BX.cell
      have lx := BX.lt
      go_wp2_with fail
      clear cx lx
      refine hrh2.mono ?_
      rintro e w4 ⟨rfl, hb4⟩
      replace BX := BX.step hb4
      replace hb := hb.trans (hb4.mono hb.size)
      go_wp2_with fail
      refine (example_any _).mono ?_
      rintro e w5 ⟨rfl, hb5⟩
      go_wp2_with fail
      go_ret
      exact ⟨rfl, hb.trans (hb5.mono hb.size)⟩
  · have hT := tightE_chk h0
    have h0' : (bchkA n o l c != 0) = true := by simpa using h0
    have h0'' : (bchkA n o l c == 0) = false := by simpa using h0
    unfold AsgOut at has
    rw [hT] at has
    have HAS := Lib.hid has
    have HN := Lib.hid h0
    clear hT has h0 ho hl hc
    generalize bchkA n o l c = E at *
    go_enter Try.func3, Try.ntmps3
    have cx := BX.cell
    have lx := BX.lt
    go_wp2_with fail
    clear cx lx
    refine (hck _ hb).mono ?_
    rintro e w1 ⟨rfl, hb1⟩
    replace BX := BX.step hb1
    replace hb := hb.trans (hb1.mono hb.size)
    have cx := BX.cell
    have lx := BX.lt
    go_wp2_with fail
    clear cx lx
    refine (HAS.out _ hb).mono ?_
    rintro e w3 ⟨hb3, v, ms, rfl, hm, hms, _⟩
    obtain rfl := hms HN.out
    obtain ⟨oa, cap, rfl, _, _, _, _⟩ := hm.at_
    replace BX := BX.step hb3
    replace hb := hb.trans (hb3.mono hb.size)
    have cx := BX.cell
    have lx := BX.lt
    go_wp2_with fail
    clear cx lx
    refine (example_any _).mono ?_
    rintro e w4 ⟨rfl, hb4⟩
    go_wp2_with fail
    go_ret
    exact ⟨rfl, hb.trans (hb4.mono hb.size)⟩

end Go.Proofs.Ythaoclocachbaaa
