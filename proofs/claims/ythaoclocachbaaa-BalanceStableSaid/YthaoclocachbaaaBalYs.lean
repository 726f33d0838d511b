/- The walk of BalanceStable. -/
import Derived.Test.YthaoclocachbaaaBalX
import Derived.Test.YthaoclocachbaaaBalZ
namespace Go.Proofs.Ythaoclocachbaaa
set_option linter.unusedVariables false
set_option linter.unusedSimpArgs false
open Go.RowKit

def SbRel (w1 : World) (L : List Tr) (v i : Value) (wr : World) : Prop := ∃ k : Nat, k ≤ L.length ∧ i = .int .i64 k ∧ Below w1.heap.size w1 wr ∧ wr.ownsRow w1.heap.size 43 4 v k (rowOf encR (L.take k))
set_option maxRecDepth 100000 in
set_option maxHeartbeats 8000000 in
theorem law_stable {w : World} {vo vl vc : Value} (n : Int) {o : List Sp} {l : List Tr} {c : List Sp} (ho : RowIn w vo 2 encP o) (hl : RowIn w vl 4 encR l) (hc : RowIn w vc 2 encP c) :
    Calls Try.prog 11 #[.agg #[.int .i64 n, vo, vl, vc]] w fun e w' => e = .returned (.bool true) ∧ Below w.heap.size w w' := by
  have hb : Below w.heap.size w (w.alloc (.cells #[.int .i64 n, vo, vl, vc] 25)) := by repeat (first | (with_reducible exact Below.refl _ _) | (with_reducible assumption) | (with_reducible refine Below.drew ?_) | ((with_reducible refine Below.alloc ?_ ?_ _); rotate_left; (first | (with_reducible exact Nat.zero_le _) | (with_reducible exact Nat.le_refl _) | omega | (dsimp only; omega) | (simp only [World.size_alloc, World.size_setCell, World.size_drew]; omega))) | ((with_reducible refine Below.setCell ?_ ?_ _); rotate_left; (first | (with_reducible exact Nat.zero_le _) | (with_reducible exact Nat.le_refl _) | omega | (dsimp only; omega) | (simp only [World.size_alloc, World.size_setCell, World.size_drew]; omega))))
  have BX := Blk.new w 25 #[.int .i64 n, vo, vl, vc]
  have ht := fun w' (h : Below w.heap.size w w') => tighten_any (w := w') n (ho.step h) (hl.step h) (hc.step h)
  obtain ⟨la, cb, rfl, l1, l2, _, hl5⟩ := id hl.at_
  have HL := Lib.hid hl5
  clear hl5
  by_cases h0 : tightE n o l c = 0
  · have hA : bchkA n o l c = 0 := by
      by_cases hA : bchkA n o l c = 0
      · exact hA
      · rw [tightE_chk hA] at h0; exact absurd h0 hA
    have hB := bchk_ok (bchkA_ok hA).1
    have hn1 := hB.n1
    have hn8 := hB.n8
    have hfew := hB.few
    obtain ⟨N, rfl⟩ : ∃ N : Nat, n = N := ⟨n.toNat, by omega⟩
    have hf : feasB N o l c = true := by
      cases hf : feasB N o l c with
      | true => rfl
      | false => rw [tightE_no hA (by rw [Int.toNat_natCast]; exact hf)] at h0; cases h0
    have hV : tightV N o l c = tightL N o l c := by unfold tightV; rw [if_pos h0, Int.toNat_natCast]
    rw [h0, hV] at ht
    have hTL : (tightL N o l c).length = l.length := by simp [tightL]
    have hTT : (tightT N o l c).length = l.length := by simp [tightT]
    have HTG := Lib.hid fun k t (h : l[k]? = some t) => (show (tightL N o l c)[k]? = some (tightAt N o l c t) ∧ (tightT N o l c)[k]? = some (⟨t.frm, t.to, tightAt N o l c t⟩ : Tr) from ⟨by unfold tightL; rw [List.getElem?_map, h]; rfl, by unfold tightT; rw [List.getElem?_map, h]; rfl⟩)
    obtain ⟨s1, s2, s3⟩ := tight_stable hA hf
    have hE2 : tightE N o (tightT N o l c) c = 0 := tightE_ok s1 (by rw [Int.toNat_natCast]; exact s2)
    have hV2 : tightV N o (tightT N o l c) c = tightL N o l c := by unfold tightV; rw [if_pos hE2, Int.toNat_natCast, s3]
    have ht2 := fun w' vt (h : Below w.heap.size w w') (hr : RowIn w' vt 4 encR (tightT N o l c)) => tighten_any (w := w') (N : Int) (ho.step h) hr (hc.step h)
    rw [hE2, hV2] at ht2
    have HT2 := Lib.hid ht2
    clear h0 hV hA hB hf s1 s2 s3 hE2 hV2 ht2 ho hl hc
    generalize tightL N o l c = TL at *
    generalize tightT N o l c = TT at *
    have HTL := Lib.hid hTL
    have HTT := Lib.hid hTT
    clear hTL hTT
    obtain ⟨ti, hi, hz, hsi, hby⟩ := info_of (P := Try.prog) (t := 43) (z := .agg #[.int .i64 0, .int .i64 0, .int .i64 0, .int .i64 0]) (size := 4) (bytes := 32) (by kernel_rfl)
    go_enter Try.func11, Try.ntmps11
    have x0 : World.cell? (w.alloc (.cells #[.int .i64 (N : Int), vo, .slice la l.length cb, vc] 25)) ⟨w.heap.size, 0, none⟩ = some (.int .i64 (N : Int)) := BX.cell 0
    have x1 : World.cell? (w.alloc (.cells #[.int .i64 (N : Int), vo, .slice la l.length cb, vc] 25)) ⟨w.heap.size, 1, none⟩ = some vo := BX.cell 1
    have x2 : World.cell? (w.alloc (.cells #[.int .i64 (N : Int), vo, .slice la l.length cb, vc] 25)) ⟨w.heap.size, 2, none⟩ = some (.slice la l.length cb) := BX.cell 2
    have x3 : World.cell? (w.alloc (.cells #[.int .i64 (N : Int), vo, .slice la l.length cb, vc] 25)) ⟨w.heap.size, 3, none⟩ = some vc := BX.cell 3
    have lx := BX.lt
    go_wp2_with fail
    clear x0 x1 x2 x3 lx
    refine (ht _ hb).mono ?_
    rintro e w1 ⟨v1, rfl, hr, hb1⟩
    replace BX := BX.step hb1
    replace hb := hb.trans (hb1.mono hb.size)
    have hr1 := hr
    obtain ⟨ra, rc, hv, _, _, _, hr5⟩ := hr.at_
    have HR := Lib.hid hr5
    rw [HTL.out] at hv
    subst hv
    clear hr hr5
    have x0 : World.cell? w1 ⟨w.heap.size, 0, none⟩ = some (.int .i64 (N : Int)) := BX.cell 0
    have x1 : World.cell? w1 ⟨w.heap.size, 1, none⟩ = some vo := BX.cell 1
    have x2 : World.cell? w1 ⟨w.heap.size, 2, none⟩ = some (.slice la l.length cb) := BX.cell 2
    have x3 : World.cell? w1 ⟨w.heap.size, 3, none⟩ = some vc := BX.cell 3
    have lx := BX.lt
    go_wp2_with fail
    clear x0 x1 x2 x3 lx
    go_loopw [5, 34] (fun v i wr => SbRel w1 TT v i wr) (fun _ i _ => (l.length - intOf i).toNat)
    case atStart => exact ⟨0, Nat.zero_le _, rfl, Below.refl _ _, ⟨by simp [rowOf], .inl ⟨rfl, rfl⟩⟩⟩
    case round =>
      obtain ⟨j, hj, rfl, hbr, own⟩ := hrel
      rw [HTT.out] at hj
      have hsz := hbr.size
      by_cases hjt : j < l.length
      · obtain ⟨x, hx⟩ : ∃ x, l[j]? = some x := ⟨_, List.getElem?_eq_getElem hjt⟩
        obtain ⟨g1, g2⟩ := HTG.out j x hx
        obtain ⟨lb, lo, hlo, hlz, hlc⟩ := HL.out (by rintro rfl; simp at hjt)
        obtain ⟨rb, ro, hro, hrz, hrc⟩ := HR.out (by rintro rfl; simp at g1)
        subst hlo hro
        have hjl : (j : Int) < l.length := by omega
        have hj0 : (0 : Int) ≤ j := by omega
        have hw0 := hb.trans (hbr.mono hb.size)
        have hto := take_snoc g2
        have HTO := Lib.hid hto
        generalize tightAt N o l c x = T at *
        obtain ⟨tl, th⟩ := T
        obtain ⟨xf, xt, m0, m1⟩ := x
        try dsimp only at *
        have e0 : World.cell? wr ⟨lb, lo + j * 4, none⟩ = some (.int .i64 xf) := (hw0.cell (p := ⟨lb, lo + j * 4, none⟩) hlz).trans (hlc j _ hx 0 (by omega))
        have e1 : World.cell? wr ⟨lb, lo + j * 4 + 1, none⟩ = some (.int .i64 xt) := (hw0.cell (p := ⟨lb, lo + j * 4 + 1, none⟩) hlz).trans (hlc j _ hx 1 (by omega))
        have e2 : World.cell? wr ⟨lb, lo + j * 4 + 2, none⟩ = some (.int .i64 m0) := (hw0.cell (p := ⟨lb, lo + j * 4 + 2, none⟩) hlz).trans (hlc j _ hx 2 (by omega))
        have e3 : World.cell? wr ⟨lb, lo + j * 4 + 3, none⟩ = some (.int .i64 m1) := (hw0.cell (p := ⟨lb, lo + j * 4 + 3, none⟩) hlz).trans (hlc j _ hx 3 (by omega))
        have r0 : World.cell? wr ⟨rb, ro + j * 2, none⟩ = some (.int .i64 tl) := (hbr.cell (p := ⟨rb, ro + j * 2, none⟩) hrz).trans (hrc j _ g1 0 (by omega))
        have r1 : World.cell? wr ⟨rb, ro + j * 2 + 1, none⟩ = some (.int .i64 th) := (hbr.cell (p := ⟨rb, ro + j * 2 + 1, none⟩) hrz).trans (hrc j _ g1 1 (by omega))
        have hrz2 := Nat.lt_of_lt_of_le hrz hsz
        have hlz2 := Nat.lt_of_lt_of_le hlz hw0.size
        have hr0 : ∀ jj, Value.ownBlock u5 = some jj → w1.heap.size ≤ jj := fun jj hj => by
          rcases ownsRow_open own with ⟨rfl, _⟩ | ⟨gg, cc, uu, rfl, hgg, _⟩
          · cases hj
          · have hj' := Option.some.inj hj; dsimp only at hj'; omega
        clear hlc hrc g1 g2 hx hto hw0
        have hbz := (hbr.alloc hsz (.cells #[.int .i64 xf, .int .i64 xt, .int .i64 tl, .int .i64 th] 43)).alloc (by simp; omega) (.cells #[.int .i64 xf, .int .i64 xt, .int .i64 tl, .int .i64 th] 43)
        have hbv := (Below.alloc (Below.refl wr.heap.size wr) (Nat.le_refl _) (.cells #[.int .i64 xf, .int .i64 xt, .int .i64 tl, .int .i64 th] 43)).alloc (by simp) (.cells #[.int .i64 xf, .int .i64 xt, .int .i64 tl, .int .i64 th] 43)
        have BN : Blk ((wr.alloc (.cells #[.int .i64 xf, .int .i64 xt, .int .i64 tl, .int .i64 th] 43)).alloc (.cells #[.int .i64 xf, .int .i64 xt, .int .i64 tl, .int .i64 th] 43)) (wr.heap.size + 1) 43 #[.int .i64 xf, .int .i64 xt, .int .i64 tl, .int .i64 th] := by
          have := Blk.new (wr.alloc (.cells #[.int .i64 xf, .int .i64 xt, .int .i64 tl, .int .i64 th] 43)) 43 #[.int .i64 xf, .int .i64 xt, .int .i64 tl, .int .i64 th]
          simpa using this
        go_wp2_with (at_builtin; refine wpList_append_any _ rfl _ _ _ rfl w1.heap.size 43 ti _ 4 32 Try.underlying23 hi hz hsi hby rfl (by omega) _ j _ rfl (ownsRow_step own hbv) _ 1 (encR ⟨xf, xt, ⟨tl, th⟩⟩) rfl (Src.of_blk BN 1) rfl (fun u hu => oneR [⟨xf, xt, ⟨tl, th⟩⟩] u (by simpa [rowOf] using hu)) (by simp only [maxLen]; omega) (by omega) (by first | omega | (simp only [World.size_alloc, World.size_setCell, World.size_drew] <;> omega)) ?_; intro v5 w5 own5 hg5 hat5)
        have hb5 : Below w1.heap.size w1 w5 := Below.grown hbz hg5 (by first | omega | (simp only [World.size_alloc, World.size_setCell] <;> omega)) hr0
        have own7 : w5.ownsRow w1.heap.size 43 4 v5 (j + 1) (rowOf encR (TT.take (j + 1))) := by
          rw [HTO.out, rowOf_append]
          simpa [rowOf] using own5
        clear own5 own hg5 hbz hbv BN e0 e1 e2 e3 r0 r1
        go_roundw
        case rel => exact ⟨j + 1, by rw [HTT.out]; exact hjt, by simp, hb5, own7⟩
        case measure => simp [intOf]; omega
      · obtain rfl : j = l.length := by omega
        have hLl := HTT.out
        rw [← hLl, List.take_length] at own
        have R0 := RowIn.of_own encR_len own
        clear own hLl
        replace BX := BX.step hbr
        replace hb := hb.trans (hbr.mono hb.size)
        replace hr1 := hr1.step hbr
        have x0 : World.cell? wr ⟨w.heap.size, 0, none⟩ = some (.int .i64 (N : Int)) := BX.cell 0
        have x1 : World.cell? wr ⟨w.heap.size, 1, none⟩ = some vo := BX.cell 1
        have x2 : World.cell? wr ⟨w.heap.size, 2, none⟩ = some (.slice la l.length cb) := BX.cell 2
        have x3 : World.cell? wr ⟨w.heap.size, 3, none⟩ = some vc := BX.cell 3
        have lx := BX.lt
        go_wp2_with fail
        clear x0 x1 x2 x3 lx
        refine (HT2.out _ _ hb R0).mono ?_
        rintro e w2 ⟨v2, rfl, hr2, hb2⟩
        replace hr1 := hr1.step hb2
        replace BX := BX.step hb2
        replace hb := hb.trans (hb2.mono hb.size)
        go_wp2_with fail
        refine (same_any hr2 hr1).mono ?_
        rintro e w3 ⟨rfl, hb3⟩
        replace BX := BX.step hb3
        replace hb := hb.trans (hb3.mono hb.size)
        go_wp2_with fail
        refine (example_any _).mono ?_
        rintro e w9 ⟨rfl, hb9⟩
        go_wp2_with fail
        go_ret
        exact ⟨rfl, hb.trans (hb9.mono hb.size)⟩
  · have h0' : (tightE n o l c != 0) = true := by simpa using h0
    clear h0 ho hl hc
    generalize tightE n o l c = E at *
    generalize tightV n o l c = V at *
    go_enter Try.func11, Try.ntmps11
    have x0 : World.cell? (w.alloc (.cells #[.int .i64 n, vo, .slice la l.length cb, vc] 25)) ⟨w.heap.size, 0, none⟩ = some (.int .i64 n) := BX.cell 0
    have x1 : World.cell? (w.alloc (.cells #[.int .i64 n, vo, .slice la l.length cb, vc] 25)) ⟨w.heap.size, 1, none⟩ = some vo := BX.cell 1
    have x2 : World.cell? (w.alloc (.cells #[.int .i64 n, vo, .slice la l.length cb, vc] 25)) ⟨w.heap.size, 2, none⟩ = some (.slice la l.length cb) := BX.cell 2
    have x3 : World.cell? (w.alloc (.cells #[.int .i64 n, vo, .slice la l.length cb, vc] 25)) ⟨w.heap.size, 3, none⟩ = some vc := BX.cell 3
    have lx := BX.lt
    go_wp2_with fail
    clear x0 x1 x2 x3 lx
    refine (ht _ hb).mono ?_
    rintro e w1 ⟨v1, rfl, hr, hb1⟩
    replace BX := BX.step hb1
    replace hb := hb.trans (hb1.mono hb.size)
    go_wp2_with fail
    refine (example_any _).mono ?_
    rintro e w9 ⟨rfl, hb9⟩
    go_wp2_with fail
    go_ret
    exact ⟨rfl, hb.trans (hb9.mono hb.size)⟩

end Go.Proofs.Ythaoclocachbaaa
