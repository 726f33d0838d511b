/- The walk of BalanceAttained. -/
import Derived.Test.YthaoclocachbaaaBalX
import Derived.Test.YthaoclocachbaaaBalZ
import Derived.Test.YthaoclocachbaaaBalK
import Derived.Deep.RegionLaw
import Derived.Deep.RegionHeld3
import Derived.Deep.DeepCutAuto
namespace Go.Proofs.Ythaoclocachbaaa
set_option linter.unusedVariables false
set_option linter.unusedSimpArgs false
open Go.RowKit

theorem fix_tight {N : Nat} {o : List Sp} {l : List Tr} {c : List Sp} (hA : bchkA N o l c = 0) (hf : feasB N o l c = true) {k : Nat} {t : Tr} (h : l[k]? = some t) {m : Int} (h1 : t.mass.lo ≤ m) (h3 : m ≤ t.mass.hi) :
    tightE N o (l.set k (withB t m m)) c = (if (tightAt N o l c t).lo ≤ m ∧ m ≤ (tightAt N o l c t).hi then 0 else 40) ∧ ∀ ms, holdsB N o (l.set k (withB t m m)) c ms = true → ms.length = N + l.length ∧ ms.getD (N + k) 0 = m := by
  obtain ⟨hb, hc, hv⟩ := bchkA_ok hA
  have hB := bchk_ok hb
  have hm := tr_mass hB h
  have hk : k < l.length := (List.getElem?_eq_some_iff.1 h).1
  have hA' := bchkA_of (bok_set hB (a := m) (b := m) h (by omega) (Int.le_refl _) (by omega)) hc hv
  have hfs := feas_set hA hf h (a := m) (b := m) h1 (Int.le_refl _) h3
  have hol : o.length = N := by have := hB.len; omega
  constructor
  · split
    · rename_i hin
      exact tightE_ok hA' (by rw [Int.toNat_natCast]; exact hfs.2 hin)
    · rename_i hin
      exact tightE_no hA' (by rw [Int.toNat_natCast, Bool.eq_false_iff]; exact fun hh => hin (hfs.1 hh))
  · intro ms hms
    obtain ⟨_, hl, htr⟩ := holds_tr hms
    have hmk := htr k (by simpa using hk)
    have eset : (l.set k (withB t m m)).getD k tr0 = withB t m m := by simp [List.getD_eq_getElem?_getD, hk]
    rw [eset, hasV_iff, hol] at hmk
    have hmk' : m ≤ ms.getD (N + k) 0 ∧ ms.getD (N + k) 0 ≤ m := hmk.2
    rw [List.length_set] at hl
    exact ⟨by omega, by omega⟩

set_option maxRecDepth 100000 in
set_option maxHeartbeats 8000000 in
theorem law_attained {w : World} {vo vl vc : Value} (n : Int) {o : List Sp} {l : List Tr} {c : List Sp} (ho : RowIn w vo 2 encP o) (hl : RowIn w vl 4 encR l) (hc : RowIn w vc 2 encP c) (k mm : Int) :
    Calls Try.prog 10 #[.agg #[.int .i64 n, vo, vl, vc], .int .i64 k, .int .i64 mm] w fun e w' => e = .returned (.bool true) ∧ Below w.heap.size w w' := by
  have hb : Below w.heap.size w (w.alloc (.cells #[.int .i64 n, vo, vl, vc] 25)) := by repeat (first | (with_reducible exact Below.refl _ _) | (with_reducible assumption) | (with_reducible refine Below.drew ?_) | ((with_reducible refine Below.alloc ?_ ?_ _); rotate_left; (first | (with_reducible exact Nat.zero_le _) | (with_reducible exact Nat.le_refl _) | omega | (dsimp only; omega) | (simp only [World.size_alloc, World.size_setCell, World.size_drew]; omega))) | ((with_reducible refine Below.setCell ?_ ?_ _); rotate_left; (first | (with_reducible exact Nat.zero_le _) | (with_reducible exact Nat.le_refl _) | omega | (dsimp only; omega) | (simp only [World.size_alloc, World.size_setCell, World.size_drew]; omega))))
  have BX := Blk.new w 25 #[.int .i64 n, vo, vl, vc]
  have ht := fun w' (h : Below w.heap.size w w') => tighten_any (w := w') n (ho.step h) (hl.step h) (hc.step h)
  obtain ⟨la, cb, rfl, l1, l2, _, hl5⟩ := id hl.at_
  have HL := Lib.hid hl5
  clear hl5
  by_cases h0 : tightE n o l c = 0
  · have hA : bchkA n o l c = 0 := by
      by_cases hA : bchkA n o l c = 0
      · exact hA
      · rw [tightE_chk hA] at h0; exact absurd h0 hA
    have hB := bchk_ok (bchkA_ok hA).1
    have hn1 := hB.n1
    have hn8 := hB.n8
    have hfew := hB.few
    obtain ⟨N, rfl⟩ : ∃ N : Nat, n = N := ⟨n.toNat, by omega⟩
    have hf : feasB N o l c = true := by
      cases hf : feasB N o l c with
      | true => rfl
      | false => rw [tightE_no hA (by rw [Int.toNat_natCast]; exact hf)] at h0; cases h0
    have hV : tightV N o l c = tightL N o l c := by unfold tightV; rw [if_pos h0, Int.toNat_natCast]
    rw [h0, hV] at ht
    have hTL : (tightL N o l c).length = l.length := by simp [tightL]
    have HTG := Lib.hid fun k t (h : l[k]? = some t) => (show (tightL N o l c)[k]? = some (tightAt N o l c t) from (by unfold tightL; rw [List.getElem?_map, h]; rfl))
    have HFT := Lib.hid fun k t m (h : l[k]? = some t) h1 h2 => fix_tight (m := m) hA hf h h1 h2
    have HT := Lib.hid ht
    clear h0 hV hA hB hf ht
    have ht := HT.out
    by_cases hk0 : k < 0
    · clear ho hl hc hTL
      go_enter Try.func10, Try.ntmps10
      have x0 : World.cell? (w.alloc (.cells #[.int .i64 (N : Int), vo, .slice la l.length cb, vc] 25)) ⟨w.heap.size, 0, none⟩ = some (.int .i64 (N : Int)) := BX.cell 0
      have x1 : World.cell? (w.alloc (.cells #[.int .i64 (N : Int), vo, .slice la l.length cb, vc] 25)) ⟨w.heap.size, 1, none⟩ = some vo := BX.cell 1
      have x2 : World.cell? (w.alloc (.cells #[.int .i64 (N : Int), vo, .slice la l.length cb, vc] 25)) ⟨w.heap.size, 2, none⟩ = some (.slice la l.length cb) := BX.cell 2
      have x3 : World.cell? (w.alloc (.cells #[.int .i64 (N : Int), vo, .slice la l.length cb, vc] 25)) ⟨w.heap.size, 3, none⟩ = some vc := BX.cell 3
      have lx := BX.lt
      go_wp2_with fail
      clear x0 x1 x2 x3 lx
      refine (ht _ hb).mono ?_
      rintro e w1 ⟨v1, rfl, hr, hb1⟩
      replace BX := BX.step hb1
      replace hb := hb.trans (hb1.mono hb.size)
      have x0 : World.cell? w1 ⟨w.heap.size, 0, none⟩ = some (.int .i64 (N : Int)) := BX.cell 0
      have x1 : World.cell? w1 ⟨w.heap.size, 1, none⟩ = some vo := BX.cell 1
      have x2 : World.cell? w1 ⟨w.heap.size, 2, none⟩ = some (.slice la l.length cb) := BX.cell 2
      have x3 : World.cell? w1 ⟨w.heap.size, 3, none⟩ = some vc := BX.cell 3
      have lx := BX.lt
      go_wp2_with fail
      refine (example_any _).mono ?_
      rintro e w9 ⟨rfl, hb9⟩
      go_wp2_with fail
      go_ret
      exact ⟨rfl, hb.trans (hb9.mono hb.size)⟩
    by_cases hk1 : k ≥ l.length
    · clear ho hl hc hTL
      go_enter Try.func10, Try.ntmps10
      have x0 : World.cell? (w.alloc (.cells #[.int .i64 (N : Int), vo, .slice la l.length cb, vc] 25)) ⟨w.heap.size, 0, none⟩ = some (.int .i64 (N : Int)) := BX.cell 0
      have x1 : World.cell? (w.alloc (.cells #[.int .i64 (N : Int), vo, .slice la l.length cb, vc] 25)) ⟨w.heap.size, 1, none⟩ = some vo := BX.cell 1
      have x2 : World.cell? (w.alloc (.cells #[.int .i64 (N : Int), vo, .slice la l.length cb, vc] 25)) ⟨w.heap.size, 2, none⟩ = some (.slice la l.length cb) := BX.cell 2
      have x3 : World.cell? (w.alloc (.cells #[.int .i64 (N : Int), vo, .slice la l.length cb, vc] 25)) ⟨w.heap.size, 3, none⟩ = some vc := BX.cell 3
      have lx := BX.lt
      go_wp2_with fail
      clear x0 x1 x2 x3 lx
      refine (ht _ hb).mono ?_
      rintro e w1 ⟨v1, rfl, hr, hb1⟩
      replace BX := BX.step hb1
      replace hb := hb.trans (hb1.mono hb.size)
      have x0 : World.cell? w1 ⟨w.heap.size, 0, none⟩ = some (.int .i64 (N : Int)) := BX.cell 0
      have x1 : World.cell? w1 ⟨w.heap.size, 1, none⟩ = some vo := BX.cell 1
      have x2 : World.cell? w1 ⟨w.heap.size, 2, none⟩ = some (.slice la l.length cb) := BX.cell 2
      have x3 : World.cell? w1 ⟨w.heap.size, 3, none⟩ = some vc := BX.cell 3
      have lx := BX.lt
      go_wp2_with fail
      refine (example_any _).mono ?_
      rintro e w9 ⟨rfl, hb9⟩
      go_wp2_with fail
      go_ret
      exact ⟨rfl, hb.trans (hb9.mono hb.size)⟩
    obtain ⟨kn, rfl⟩ : ∃ kn : Nat, k = kn := ⟨k.toNat, by omega⟩
    have hkn : kn < l.length := by omega
    obtain ⟨t, hx⟩ : ∃ t, l[kn]? = some t := ⟨_, List.getElem?_eq_getElem hkn⟩
    obtain ⟨lb, lo, hlo, hlz, hlc⟩ := HL.out (by rintro rfl; simp at hx)
    have htg := HTG.out kn t hx
    have hft := fun h1 h2 => HFT.out kn t mm hx h1 h2
    have hkl : (kn : Int) < l.length := by omega
    have hk0' : (0 : Int) ≤ kn := by omega
    have HE := Lib.hid fun wq (hq : Below w.heap.size w wq) => (show World.cell? wq ⟨lb, lo + kn * 4 + 2, none⟩ = some (.int .i64 t.mass.lo) ∧ World.cell? wq ⟨lb, lo + kn * 4 + 2 + 1, none⟩ = some (.int .i64 t.mass.hi) from
      ⟨(hq.cell (p := ⟨lb, lo + kn * 4 + 2, none⟩) hlz).trans (hlc kn _ hx 2 (by omega)), (hq.cell (p := ⟨lb, lo + kn * 4 + 3, none⟩) hlz).trans (hlc kn _ hx 3 (by omega))⟩)
    have HFX := Lib.hid fun w' (h : Below w.heap.size w w') => fixed_any (w := w') (hl.step h) hfew hx mm
    have HAS := Lib.hid fun w' vf (h : Below w.heap.size w w') (hf : RowIn w' vf 4 encR (l.set kn (withB t mm mm))) => assign_any (w := w') (N : Int) (ho.step h) hf (hc.step h)
    subst hlo
    clear hlc hx ho hl hc HL HTG HFT
    generalize tightL N o l c = TL at *
    generalize tightAt N o l c t = T at *
    obtain ⟨tl, th⟩ := T
    have HTLl := Lib.hid hTL
    have HTGx := Lib.hid htg
    have HFT := Lib.hid hft
    clear hTL htg hft
    have hcs : (mm < 0 ∨ (¬ mm < 0 ∧ mm > 70368744177664) ∨ (¬ mm < 0 ∧ ¬ mm > 70368744177664 ∧ mm < t.mass.lo) ∨ (¬ mm < 0 ∧ ¬ mm > 70368744177664 ∧ ¬ mm < t.mass.lo ∧ mm > t.mass.hi)) ∨ (¬ mm < 0 ∧ ¬ mm > 70368744177664 ∧ ¬ mm < t.mass.lo ∧ ¬ mm > t.mass.hi) := by omega
    rcases hcs with hcs | ⟨h1, h2, h3, h4⟩
    · rcases hcs with h1 | ⟨h1, h2⟩ | ⟨h1, h2, h3⟩ | ⟨h1, h2, h3, h4⟩
      all_goals (
        go_enter Try.func10, Try.ntmps10
        have x0 : World.cell? (w.alloc (.cells #[.int .i64 (N : Int), vo, .slice (some ⟨lb, lo, none⟩) l.length cb, vc] 25)) ⟨w.heap.size, 0, none⟩ = some (.int .i64 (N : Int)) := BX.cell 0
        have x1 : World.cell? (w.alloc (.cells #[.int .i64 (N : Int), vo, .slice (some ⟨lb, lo, none⟩) l.length cb, vc] 25)) ⟨w.heap.size, 1, none⟩ = some vo := BX.cell 1
        have x2 : World.cell? (w.alloc (.cells #[.int .i64 (N : Int), vo, .slice (some ⟨lb, lo, none⟩) l.length cb, vc] 25)) ⟨w.heap.size, 2, none⟩ = some (.slice (some ⟨lb, lo, none⟩) l.length cb) := BX.cell 2
        have x3 : World.cell? (w.alloc (.cells #[.int .i64 (N : Int), vo, .slice (some ⟨lb, lo, none⟩) l.length cb, vc] 25)) ⟨w.heap.size, 3, none⟩ = some vc := BX.cell 3
        have lx := BX.lt
        go_wp2_with fail
        clear x0 x1 x2 x3 lx
        refine (ht _ hb).mono ?_
        rintro e w1 ⟨v1, rfl, hr, hb1⟩
        replace BX := BX.step hb1
        replace hb := hb.trans (hb1.mono hb.size)
        obtain ⟨ra, rc, hv, _, _, _, _⟩ := hr.at_
        rw [HTLl.out] at hv
        subst hv
        have x0 : World.cell? w1 ⟨w.heap.size, 0, none⟩ = some (.int .i64 (N : Int)) := BX.cell 0
        have x1 : World.cell? w1 ⟨w.heap.size, 1, none⟩ = some vo := BX.cell 1
        have x2 : World.cell? w1 ⟨w.heap.size, 2, none⟩ = some (.slice (some ⟨lb, lo, none⟩) l.length cb) := BX.cell 2
        have x3 : World.cell? w1 ⟨w.heap.size, 3, none⟩ = some vc := BX.cell 3
        have lx := BX.lt
        obtain ⟨e2, e3⟩ := HE.out _ hb
        go_wp2_with fail
        refine (example_any _).mono ?_
        rintro e w9 ⟨rfl, hb9⟩
        go_wp2_with fail
        go_ret
        exact ⟨rfl, hb.trans (hb9.mono hb.size)⟩)
    have hft := HFT.out (by omega) (by omega)
    obtain ⟨hft1, hft2⟩ := hft
    have HF2 := Lib.hid hft2
    clear hft2
    go_enter Try.func10, Try.ntmps10
    have x0 : World.cell? (w.alloc (.cells #[.int .i64 (N : Int), vo, .slice (some ⟨lb, lo, none⟩) l.length cb, vc] 25)) ⟨w.heap.size, 0, none⟩ = some (.int .i64 (N : Int)) := BX.cell 0
    have x1 : World.cell? (w.alloc (.cells #[.int .i64 (N : Int), vo, .slice (some ⟨lb, lo, none⟩) l.length cb, vc] 25)) ⟨w.heap.size, 1, none⟩ = some vo := BX.cell 1
    have x2 : World.cell? (w.alloc (.cells #[.int .i64 (N : Int), vo, .slice (some ⟨lb, lo, none⟩) l.length cb, vc] 25)) ⟨w.heap.size, 2, none⟩ = some (.slice (some ⟨lb, lo, none⟩) l.length cb) := BX.cell 2
    have x3 : World.cell? (w.alloc (.cells #[.int .i64 (N : Int), vo, .slice (some ⟨lb, lo, none⟩) l.length cb, vc] 25)) ⟨w.heap.size, 3, none⟩ = some vc := BX.cell 3
    have lx := BX.lt
    go_wp2_with fail
    clear x0 x1 x2 x3 lx
    refine (ht _ hb).mono ?_
    rintro e w1 ⟨v1, rfl, hr, hb1⟩
    replace BX := BX.step hb1
    replace hb := hb.trans (hb1.mono hb.size)
    obtain ⟨ra, rc, hv, _, _, _, hr5⟩ := hr.at_
    obtain ⟨rb, ro, hro, hrz, hrc⟩ := hr5 (by intro hh; have := HTGx.out; rw [hh] at this; simp at this)
    have r0 : World.cell? w1 ⟨rb, ro + kn * 2, none⟩ = some (.int .i64 tl) := hrc kn _ HTGx.out 0 (by omega)
    have r1 : World.cell? w1 ⟨rb, ro + kn * 2 + 1, none⟩ = some (.int .i64 th) := hrc kn _ HTGx.out 1 (by omega)
    rw [HTLl.out] at hv
    subst hv hro
    clear hrc hr5 hr
    have x0 : World.cell? w1 ⟨w.heap.size, 0, none⟩ = some (.int .i64 (N : Int)) := BX.cell 0
    have x1 : World.cell? w1 ⟨w.heap.size, 1, none⟩ = some vo := BX.cell 1
    have x2 : World.cell? w1 ⟨w.heap.size, 2, none⟩ = some (.slice (some ⟨lb, lo, none⟩) l.length cb) := BX.cell 2
    have x3 : World.cell? w1 ⟨w.heap.size, 3, none⟩ = some vc := BX.cell 3
    have lx := BX.lt
    obtain ⟨e2, e3⟩ := HE.out _ hb
    have HF1 := Lib.hid hft1
    clear hft1
    go_upto_region 8 with fail
    clear e2 e3
    go_cut [9, 10] (fun vm f wx => ∃ ms, f = .int .i64 (tightE N o (l.set kn (withB t mm mm)) c) ∧ Below w1.heap.size w1 wx ∧ RowIn wx vm 1 (fun x : Int => [.int .i64 x]) ms ∧ (tightE N o (l.set kn (withB t mm mm)) c = 0 → holdsB N o (l.set kn (withB t mm mm)) c ms = true))
    case first =>
      have hbd := hb.drew
      go_region_held3 (fun w' => w'.cell? ⟨w.heap.size, 0, none⟩ = some (.int .i64 (N : Int)) ∧ w'.cell? ⟨w.heap.size, 1, none⟩ = some vo ∧ w'.cell? ⟨w.heap.size, 2, none⟩ = some (.slice (some ⟨lb, lo, none⟩) l.length cb) ∧ w'.cell? ⟨w.heap.size, 3, none⟩ = some vc) (go_keep) ((first
        | (go_at_call 25; refine (HFX.out _ hbd).mono ?_; rintro e w5 ⟨vf, rfl, hrf, hb5⟩; have BX5 := BX.drew.step hb5; have hbz := hbd.trans (hb5.mono hbd.size); have y0 : World.cell? w5 ⟨w.heap.size, 0, none⟩ = some (.int .i64 (N : Int)) := BX5.cell 0; have y1 : World.cell? w5 ⟨w.heap.size, 1, none⟩ = some vo := BX5.cell 1; have y2 : World.cell? w5 ⟨w.heap.size, 2, none⟩ = some (.slice (some ⟨lb, lo, none⟩) l.length cb) := BX5.cell 2; have y3 : World.cell? w5 ⟨w.heap.size, 3, none⟩ = some vc := BX5.cell 3)
        | (go_at_call 14; refine (HAS.out _ _ hbz hrf).mono ?_; rintro e w6 ⟨hb6, vm, ms, rfl, hm, hm0, hm1⟩; have BX6 := BX5.step hb6; have q0 : World.cell? w6 ⟨w.heap.size, 0, none⟩ = some (.int .i64 (N : Int)) := BX6.cell 0; have q1 : World.cell? w6 ⟨w.heap.size, 1, none⟩ = some vo := BX6.cell 1; have q2 : World.cell? w6 ⟨w.heap.size, 2, none⟩ = some (.slice (some ⟨lb, lo, none⟩) l.length cb) := BX6.cell 2; have q3 : World.cell? w6 ⟨w.heap.size, 3, none⟩ = some vc := BX6.cell 3)))
      all_goals (
        have hw5 := (Below.refl w1.heap.size w1).drew.trans (hb5.mono (Nat.le_refl _))
        have hw6 := hw5.trans (hb6.mono hw5.size)
        clear x0 x1 x2 x3 lx y0 y1 y2 y3 q0 q1 q2 q3 hrf BX5 BX6
        go_wp2_with fail
        go_meet
        exact ⟨ms, rfl, hw6, hm, hm1⟩)
    case rest =>
      obtain ⟨ms, rfl, hw6, hm, hm1⟩ := hcut
      have hft1 := HF1.out
      clear x0 x1 x2 x3 lx
      have hb7 := hb.trans (hw6.mono hb.size)
      have BX6 := BX.step hw6
      have z0 : World.cell? _ ⟨w.heap.size, 0, none⟩ = some (.int .i64 (N : Int)) := BX6.cell 0
      have z1 : World.cell? _ ⟨w.heap.size, 1, none⟩ = some vo := BX6.cell 1
      have z2 : World.cell? _ ⟨w.heap.size, 2, none⟩ = some (.slice (some ⟨lb, lo, none⟩) l.length cb) := BX6.cell 2
      have z3 : World.cell? _ ⟨w.heap.size, 3, none⟩ = some vc := BX6.cell 3
      have zl := BX6.lt
      have s0 := (hw6.cell (p := ⟨rb, ro + kn * 2, none⟩) hrz).trans r0
      have s1 := (hw6.cell (p := ⟨rb, ro + kn * 2 + 1, none⟩) hrz).trans r1
      clear r0 r1 BX
      rcases (show mm < tl ∨ (¬ mm < tl ∧ mm > th) ∨ (¬ mm < tl ∧ ¬ mm > th) by omega) with d1 | ⟨d1, d2⟩ | ⟨d1, d2⟩
      · have hE := hft1.trans (if_neg (by first | omega | (dsimp only; omega)))
        clear hm hm1 hft1
        rw [hE]
        clear hE
        go_wp2_with fail
        refine (example_any _).mono ?_
        rintro e w9 ⟨rfl, hb9⟩
        go_wp2_with fail
        go_ret
        exact ⟨rfl, hb7.trans (hb9.mono hb7.size)⟩
      · have hE := hft1.trans (if_neg (by first | omega | (dsimp only; omega)))
        clear hm hm1 hft1
        rw [hE]
        clear hE
        go_wp2_with fail
        refine (example_any _).mono ?_
        rintro e w9 ⟨rfl, hb9⟩
        go_wp2_with fail
        go_ret
        exact ⟨rfl, hb7.trans (hb9.mono hb7.size)⟩
      · have hE := hft1.trans (if_pos (by first | omega | (dsimp only; omega)))
        obtain ⟨q1, q2⟩ := HF2.out ms (hm1 hE)
        obtain ⟨oa, cm, hvm, _, _, _, hm5⟩ := hm.at_
        have hmx : ms[N + kn]? = some mm := by rw [getD_i (by omega), q2]
        obtain ⟨mb, mo, hmo, hmz, hmc⟩ := hm5 (by rintro rfl; simp at hmx)
        have em := hmc (N + kn) _ hmx 0 (by omega)
        rw [Nat.mul_one, Nat.add_zero] at em
        replace em : World.cell? _ ⟨mb, mo + (N + kn), none⟩ = some (.int .i64 mm) := em
        rw [q1] at hvm
        subst hvm hmo
        have hnk0 : (0 : Int) ≤ (N : Int) + kn := by omega
        have hnkm : (N : Int) + kn < ((N + l.length : Nat) : Int) := by omega
        clear hm hm1 hm5 hmc hmx hft1 q1 q2
        rw [hE]
        clear hE
        go_wp2_with fail
        refine (example_any _).mono ?_
        rintro e w9 ⟨rfl, hb9⟩
        go_wp2_with fail
        go_ret
        exact ⟨rfl, hb7.trans (hb9.mono hb7.size)⟩
  · have h0' : (tightE n o l c != 0) = true := by simpa using h0
    clear h0 ho hl hc
    generalize tightE n o l c = E at *
    generalize tightV n o l c = V at *
    go_enter Try.func10, Try.ntmps10
    have x0 : World.cell? (w.alloc (.cells #[.int .i64 n, vo, .slice la l.length cb, vc] 25)) ⟨w.heap.size, 0, none⟩ = some (.int .i64 n) := BX.cell 0
    have x1 : World.cell? (w.alloc (.cells #[.int .i64 n, vo, .slice la l.length cb, vc] 25)) ⟨w.heap.size, 1, none⟩ = some vo := BX.cell 1
    have x2 : World.cell? (w.alloc (.cells #[.int .i64 n, vo, .slice la l.length cb, vc] 25)) ⟨w.heap.size, 2, none⟩ = some (.slice la l.length cb) := BX.cell 2
    have x3 : World.cell? (w.alloc (.cells #[.int .i64 n, vo, .slice la l.length cb, vc] 25)) ⟨w.heap.size, 3, none⟩ = some vc := BX.cell 3
    have lx := BX.lt
    go_wp2_with fail
    clear x0 x1 x2 x3 lx
    refine (ht _ hb).mono ?_
    rintro e w1 ⟨v1, rfl, hr, hb1⟩
    replace BX := BX.step hb1
    replace hb := hb.trans (hb1.mono hb.size)
    go_wp2_with fail
    refine (example_any _).mono ?_
    rintro e w9 ⟨rfl, hb9⟩
    go_wp2_with fail
    go_ret
    exact ⟨rfl, hb.trans (hb9.mono hb.size)⟩

end Go.Proofs.Ythaoclocachbaaa
