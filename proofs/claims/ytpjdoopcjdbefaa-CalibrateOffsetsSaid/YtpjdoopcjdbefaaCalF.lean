/- Contract: the conflicts of the reference. -/
import Derived.Test.YtpjdoopcjdbefaaCalE
namespace Go.Proofs.Ytpjdoopcjdbefaa
set_option linter.unusedVariables false
set_option linter.unusedSimpArgs false
open Go.RowKit

theorem conB_ok (S : List Sc) (p : Pr) (h : prE S p = 0) : conB S p = prC S p := by
  unfold conB; rw [Bool.eq_iff_iff, decide_eq_true_iff]; exact ⟨fun h => h.2, fun h' => ⟨h, h'⟩⟩
set_option maxRecDepth 100000 in
set_option maxHeartbeats 8000000 in
theorem rconflicts_any {w : World} {vs vl : Value} {S : List Sc} {l : List Pr} (hs : RowIn w vs 6 encS S) (hl : RowIn w vl 5 encQ l) : Calls Try.prog 14 #[vs, vl] w (natOut w (conL S l) (conE S l)) := by
  obtain ⟨sa, cs, rfl, s1, s2, _, hs5⟩ := id hs.at_
  have HSI := Lib.hid hs
  obtain ⟨la, cl, rfl, l1, l2, _, hl5⟩ := hl.at_
  unfold maxLen at s2 l2
  have HS := Lib.hid hs5
  have HL := Lib.hid hl5
  clear hs5 hl5 hs hl
  by_cases g1 : S.length > 16
  · have g1' : (S.length : Int) > 16 := by omega
    have HE := Lib.hid (conE_full (l := l) g1)
    clear g1
    go_enter Try.func14, Try.ntmps14
    go_wp2_with fail
    refine bodyPost_ret (v := .tuple #[.slice none 0 0, .int .i64 8]) (by simp only [results, Try.results14]; go_simp; first | done | rfl) rfl ?_
    exact natOut_no HE.out (by decide) (Below.refl _ _)
  have g1' : ¬ (S.length : Int) > 16 := by omega
  have HG1 := Lib.hid g1
  clear g1
  go_enter Try.func14, Try.ntmps14
  go_wp2_with fail
  go_loopw [19] (fun i wr => CsRel w S i wr) (fun i _ => (S.length - intOf i).toNat)
  case atStart => exact ⟨0, Nat.zero_le _, rfl, rfl, Below.refl _ _⟩
  case round =>
    obtain ⟨k, hk, rfl, hok, hb⟩ := hrel
    have hwz := hb.size
    by_cases hlt : k < S.length
    · have hx := getD_of (d := sc0) hlt
      obtain ⟨ob, oo, hoo, hoz, hoc⟩ := HS.out (by rintro rfl; simp at hlt)
      rw [hoo]
      have hkl : (k : Int) < S.length := by omega
      have ec := hoc k _ hx
      have q : ∀ j, wr.cell? ⟨ob, j, none⟩ = w.cell? ⟨ob, j, none⟩ := fun j => hb.cell (p := ⟨ob, j, none⟩) hoz
      have HT := Lib.hid (fun (h : chkS (S.getD k sc0) = 0) => (firstE_take chkS hx hok).trans h)
      have HB := Lib.hid (firstE_stop chkS hx hok)
      clear hx hok hoc
      generalize S.getD k sc0 = x at *
      have e0 : World.cell? wr ⟨ob, oo + k * 6, none⟩ = some (.int .i64 x.a) := (q _).trans (ec 0 (by omega))
      have e1 : World.cell? wr ⟨ob, oo + k * 6 + 1, none⟩ = some (.int .i64 x.b) := (q _).trans (ec 1 (by omega))
      have e2 : World.cell? wr ⟨ob, oo + k * 6 + 2, none⟩ = some (.int .i64 x.c) := (q _).trans (ec 2 (by omega))
      have e3 : World.cell? wr ⟨ob, oo + k * 6 + 3, none⟩ = some (.int .i64 x.d) := (q _).trans (ec 3 (by omega))
      have e4 : World.cell? wr ⟨ob, oo + k * 6 + 4, none⟩ = some (.int .i64 x.e) := (q _).trans (ec 4 (by omega))
      have e5 : World.cell? wr ⟨ob, oo + k * 6 + 5, none⟩ = some (.int .i64 x.f) := (q _).trans (ec 5 (by omega))
      clear ec q
      have hv := fun w => rcheck_any x.a x.b x.c x.d x.e x.f w
      have hb2 : Below w.heap.size w (wr.alloc (.cells (#[.int .i64 (x).a, .int .i64 (x).b, .int .i64 (x).c, .int .i64 (x).d, .int .i64 (x).e, .int .i64 (x).f]) 32)) := by repeat (first | (with_reducible exact Below.refl _ _) | (with_reducible assumption) | (with_reducible refine Below.drew ?_) | ((with_reducible refine Below.alloc ?_ ?_ _); rotate_left; (first | (with_reducible exact Nat.zero_le _) | (with_reducible exact Nat.le_refl _) | omega | (dsimp only; omega) | (simp only [World.size_alloc, World.size_setCell, World.size_drew]; omega))) | ((with_reducible refine Below.setCell ?_ ?_ _); rotate_left; (first | (with_reducible exact Nat.zero_le _) | (with_reducible exact Nat.le_refl _) | omega | (dsimp only; omega) | (simp only [World.size_alloc, World.size_setCell, World.size_drew]; omega))))
      by_cases h0 : chkS x = 0
      · rw [show chk x.a x.b x.c x.d x.e x.f = 0 from h0] at hv
        have H0 := Lib.hid h0
        clear h0
        go_wp2_with fail
        refine (hv _).mono ?_
        rintro e w5 ⟨rfl, hb5⟩
        go_wp2_with fail
        go_roundw
        case rel => exact ⟨k + 1, hlt, by simp, HT.out H0.out, hb2.trans (hb5.mono hb2.size)⟩
        case measure => simp [intOf]; omega
      · have h0' : (chkS x != 0) = true := by simpa using h0
        have HE := Lib.hid ((conE_bad (l := l) HG1.out (by rw [HB.out h0]; exact h0)).trans (HB.out h0))
        have H0 := Lib.hid h0
        clear h0
        rw [show chk x.a x.b x.c x.d x.e x.f = chkS x from rfl] at hv
        generalize chkS x = E at *
        go_wp2_with fail
        refine (hv _).mono ?_
        rintro e w5 ⟨rfl, hb5⟩
        go_wp2_with fail
        refine bodyPost_ret (v := .tuple #[.slice none 0 0, .int .i64 E]) (by simp only [results, Try.results14]; go_simp; first | done | rfl) rfl ?_
        exact natOut_no HE.out H0.out (hb2.trans (hb5.mono hb2.size))
    · obtain rfl : k = S.length := by omega
      rw [List.take_length] at hok
      have HOK := Lib.hid hok
      clear hok
      by_cases g2 : l.length > 64
      · have g2' : (l.length : Int) > 64 := by omega
        have HE := Lib.hid (conE_many HG1.out HOK.out g2)
        clear g2
        go_wp2_with fail
        refine bodyPost_ret (v := .tuple #[.slice none 0 0, .int .i64 8]) (by simp only [results, Try.results14]; go_simp; first | done | rfl) rfl ?_
        exact natOut_no HE.out (by decide) hb
      have g2' : ¬ (l.length : Int) > 64 := by omega
      have HE := Lib.hid (conE_pairs HG1.out HOK.out g2)
      clear g2
      obtain ⟨tj, ji, jz, jsi, jby⟩ := info_of (P := Try.prog) (t := 3) (z := .int .i64 0) (size := 1) (bytes := 8) (by kernel_rfl)
      go_wp2_with fail
      go_loopw [9, 34] (fun v i wr => CpRel w S l v i wr) (fun _ i _ => (l.length - intOf i).toNat)
      case atStart => exact ⟨0, Nat.zero_le _, rfl, rfl, hb, ⟨by simp [rowOf, conTo], .inl ⟨rfl, rfl⟩⟩⟩
      case round =>
        clear hb hwz
        obtain ⟨k, hk, rfl, hok, hb, own⟩ := hrel
        have hwz := hb.size
        by_cases hlt : k < l.length
        · have hx := getD_of (d := pr0) hlt
          obtain ⟨ob, oo, hoo, hoz, hoc⟩ := HL.out (by rintro rfl; simp at hlt)
          rw [hoo]
          have hkl : (k : Int) < l.length := by omega
          have hk0 : (0 : Int) ≤ k := by omega
          have ec := hoc k _ hx
          have q : ∀ j, wr.cell? ⟨ob, j, none⟩ = w.cell? ⟨ob, j, none⟩ := fun j => hb.cell (p := ⟨ob, j, none⟩) hoz
          have HT := Lib.hid (fun (h : prE S (l.getD k pr0) = 0) => (firstE_take (prE S) hx hok).trans h)
          have HB := Lib.hid (fun h => HE.out.trans (firstE_stop (prE S) hx hok h))
          have HC := Lib.hid (show conTo S l (k + 1) = if prC S (l.getD k pr0) = true then conTo S l k ++ [k] else conTo S l k from rfl)
          have hCL := conTo_len S l k
          have hcf := fun w hs => rconflict_any (w := w) (vs := .slice sa S.length cs) (S := S) hs (l.getD k pr0).a (l.getD k pr0).b (l.getD k pr0).sa (l.getD k pr0).sb (l.getD k pr0).tm
          have hcB := conB_ok S (l.getD k pr0)
          clear hx hok hoc
          generalize l.getD k pr0 = x at *
          have e0 : World.cell? wr ⟨ob, oo + k * 5, none⟩ = some (.int .i64 x.a) := (q _).trans (ec 0 (by omega))
          have e1 : World.cell? wr ⟨ob, oo + k * 5 + 1, none⟩ = some (.int .i64 x.b) := (q _).trans (ec 1 (by omega))
          have e2 : World.cell? wr ⟨ob, oo + k * 5 + 2, none⟩ = some (.int .i64 x.sa) := (q _).trans (ec 2 (by omega))
          have e3 : World.cell? wr ⟨ob, oo + k * 5 + 3, none⟩ = some (.int .i64 x.sb) := (q _).trans (ec 3 (by omega))
          have e4 : World.cell? wr ⟨ob, oo + k * 5 + 4, none⟩ = some (.int .i64 x.tm) := (q _).trans (ec 4 (by omega))
          clear ec q
          have hbx : Below w.heap.size w (wr.alloc (.cells (#[.int .i64 (x).a, .int .i64 (x).b, .int .i64 (x).sa, .int .i64 (x).sb, .int .i64 (x).tm]) 44)) := by repeat (first | (with_reducible exact Below.refl _ _) | (with_reducible assumption) | (with_reducible refine Below.drew ?_) | ((with_reducible refine Below.alloc ?_ ?_ _); rotate_left; (first | (with_reducible exact Nat.zero_le _) | (with_reducible exact Nat.le_refl _) | omega | (dsimp only; omega) | (simp only [World.size_alloc, World.size_setCell, World.size_drew]; omega))) | ((with_reducible refine Below.setCell ?_ ?_ _); rotate_left; (first | (with_reducible exact Nat.zero_le _) | (with_reducible exact Nat.le_refl _) | omega | (dsimp only; omega) | (simp only [World.size_alloc, World.size_setCell, World.size_drew]; omega))))
          have hbv : Below wr.heap.size wr (wr.alloc (.cells (#[.int .i64 (x).a, .int .i64 (x).b, .int .i64 (x).sa, .int .i64 (x).sb, .int .i64 (x).tm]) 44)) := by repeat (first | (with_reducible exact Below.refl _ _) | (with_reducible assumption) | (with_reducible refine Below.drew ?_) | ((with_reducible refine Below.alloc ?_ ?_ _); rotate_left; (first | (with_reducible exact Nat.zero_le _) | (with_reducible exact Nat.le_refl _) | omega | (dsimp only; omega) | (simp only [World.size_alloc, World.size_setCell, World.size_drew]; omega))) | ((with_reducible refine Below.setCell ?_ ?_ _); rotate_left; (first | (with_reducible exact Nat.zero_le _) | (with_reducible exact Nat.le_refl _) | omega | (dsimp only; omega) | (simp only [World.size_alloc, World.size_setCell, World.size_drew]; omega))))
          have BX := Blk.new wr 44 (#[.int .i64 (x).a, .int .i64 (x).b, .int .i64 (x).sa, .int .i64 (x).sb, .int .i64 (x).tm])
          have own1 := ownsRow_step own hbv
          clear own hbv
          obtain ⟨pa, pb, ps, pt, tm⟩ := x
          dsimp only at *
          have hsx := HSI.out.step hbx
          generalize conB S ⟨pa, pb, ps, pt, tm⟩ = D at *
          generalize prE S ⟨pa, pb, ps, pt, tm⟩ = E at *
          generalize prC S ⟨pa, pb, ps, pt, tm⟩ = CC at *
          by_cases n0 : E = 0
          case neg =>
            have n0' : (E != 0) = true := by simpa using n0
            have HEB := Lib.hid (HB.out n0)
            have N0 := Lib.hid n0
            clear n0 hcB HB HT HC
            go_wp2_with fail
            refine (hcf _ hsx).mono ?_
            rintro e w5 ⟨rfl, hb5⟩
            go_wp2_with fail
            refine bodyPost_ret (v := .tuple #[.slice none 0 0, .int .i64 E]) (by simp only [results, Try.results14]; go_simp; first | done | rfl) rfl ?_
            exact natOut_no HEB.out N0.out (hbx.trans (hb5.mono hbx.size))
          subst n0
          have HTK := Lib.hid (HT.out rfl)
          have HCC := HC.out
          rw [← hcB rfl] at HCC
          have HX := Lib.hid HCC
          clear HB HT HC hcB HCC
          cases D with
          | true =>
            rw [if_pos rfl] at HX
            go_wp2_with fail
            refine (hcf _ hsx).mono ?_
            rintro e w5 ⟨rfl, hb5⟩
            replace own1 := ownsRow_step own1 hb5
            replace hbx := hbx.trans (hb5.mono hbx.size)
            have hb6 : Below w5.heap.size w5 (w5.alloc (.cells #[.int .i64 (k : Int)] 3)) := by repeat (first | (with_reducible exact Below.refl _ _) | (with_reducible assumption) | (with_reducible refine Below.drew ?_) | ((with_reducible refine Below.alloc ?_ ?_ _); rotate_left; (first | (with_reducible exact Nat.zero_le _) | (with_reducible exact Nat.le_refl _) | omega | (dsimp only; omega) | (simp only [World.size_alloc, World.size_setCell, World.size_drew]; omega))) | ((with_reducible refine Below.setCell ?_ ?_ _); rotate_left; (first | (with_reducible exact Nat.zero_le _) | (with_reducible exact Nat.le_refl _) | omega | (dsimp only; omega) | (simp only [World.size_alloc, World.size_setCell, World.size_drew]; omega))))
            have BN := Blk.new w5 3 #[.int .i64 (k : Int)]
            replace own1 := ownsRow_step own1 hb6
            replace hbx := hbx.trans (hb6.mono hbx.size)
            go_wp2_with (at_builtin; refine wpList_append_any _ rfl _ _ _ rfl w.heap.size 3 tj _ 1 8 Try.underlying26 ji jz jsi jby rfl (by omega) _ (conTo S l k).length _ rfl own1 _ 1 (encN k) rfl (Src.of_blk BN 1) rfl (fun u hu => oneN [k] u (by simpa [rowOf] using hu)) (by simp only [maxLen]; omega) (by omega) hbx.size ?_; intro v6 w6 own6 hg6 hat6)
            have hb7 := Below.grown hbx hg6 hbx.size (own_ge' own1)
            have own6' : w6.ownsRow w.heap.size 3 1 v6 (conTo S l (k + 1)).length (rowOf encN (conTo S l (k + 1))) := by
              rw [HX.out, rowOf_append, List.length_append]
              simpa [rowOf] using own6
            clear own6 own1 hg6 hat6
            go_roundw
            case rel => exact ⟨k + 1, hlt, by simp, HTK.out, hb7, own6'⟩
            case measure => simp [intOf]; omega
          | false =>
            rw [if_neg (by simp)] at HX
            go_wp2_with fail
            refine (hcf _ hsx).mono ?_
            rintro e w5 ⟨rfl, hb5⟩
            replace own1 := ownsRow_step own1 hb5
            replace hbx := hbx.trans (hb5.mono hbx.size)
            go_wp2_with fail
            go_roundw
            case rel => exact ⟨k + 1, hlt, by simp, HTK.out, hbx, by rw [HX.out]; exact own1⟩
            case measure => simp [intOf]; omega
        · obtain rfl : k = l.length := by omega
          rw [List.take_length] at hok
          have HZ := Lib.hid (HE.out.trans hok)
          clear hok
          go_wp2_with fail
          refine bodyPost_ret (v := .tuple #[u9, .int .i64 0]) (by simp only [results, Try.results14]; go_simp; first | done | rfl) rfl ?_
          refine ⟨_, by rw [HZ.out], ?_, hb⟩
          have : conL S l = conTo S l l.length := by unfold conL; rw [if_pos HZ.out]
          rw [this]
          exact RowIn.of_own encN_len own

end Go.Proofs.Ytpjdoopcjdbefaa
