/- Contract: conflict of the reference. -/
import Derived.Test.YtpjdoopcjdbefaaCalA
import Derived.Deep.RegionHeld3
import Derived.Deep.DeepCutAuto
namespace Go.Proofs.Ytpjdoopcjdbefaa
set_option linter.unusedVariables false
set_option linter.unusedSimpArgs false
open Go.RowKit

theorem prCok (S : List Sc) (p : Pr) (h : prE S p ≠ 0) : (prE S p = 0 ∧ prC S p = true ↔ False) := by simp [h]
noncomputable def conB (S : List Sc) (p : Pr) : Bool := by classical exact decide (prE S p = 0 ∧ prC S p = true)
set_option maxRecDepth 100000 in
set_option maxHeartbeats 8000000 in
theorem rconflict_any {w : World} {vs : Value} {S : List Sc} (hs : RowIn w vs 6 encS S) (pa pb ps pt tm : Int) : Calls Try.prog 31 #[vs, .agg #[.int .i64 pa, .int .i64 pb, .int .i64 ps, .int .i64 pt, .int .i64 tm]] w fun e w' => e = .returned (.tuple #[.bool (conB S ⟨pa, pb, ps, pt, tm⟩), .int .i64 (prE S ⟨pa, pb, ps, pt, tm⟩)]) ∧ Below w.heap.size w w' := by
  obtain ⟨sa, cs, rfl, s1, s2, _, hs5⟩ := hs.at_
  unfold maxLen at s2
  have HS := Lib.hid hs5
  clear hs5 hs
  have hcas := prE_cases S ⟨pa, pb, ps, pt, tm⟩
  have hcon := prC_iff S ⟨pa, pb, ps, pt, tm⟩
  have HN := Lib.hid (fun h : prE S ⟨pa, pb, ps, pt, tm⟩ ≠ 0 => show conB S ⟨pa, pb, ps, pt, tm⟩ = false from decide_eq_false fun h' => h h'.1)
  have HY := Lib.hid (fun (h : prE S ⟨pa, pb, ps, pt, tm⟩ = 0) => show conB S ⟨pa, pb, ps, pt, tm⟩ = prC S ⟨pa, pb, ps, pt, tm⟩ by unfold conB; rw [Bool.eq_iff_iff, decide_eq_true_iff]; exact ⟨fun h => h.2, fun h' => ⟨h, h'⟩⟩)
  have hb : Below w.heap.size w (w.alloc (.cells #[.int .i64 pa, .int .i64 pb, .int .i64 ps, .int .i64 pt, .int .i64 tm] 44)) := by repeat (first | (with_reducible exact Below.refl _ _) | (with_reducible assumption) | (with_reducible refine Below.drew ?_) | ((with_reducible refine Below.alloc ?_ ?_ _); rotate_left; (first | (with_reducible exact Nat.zero_le _) | (with_reducible exact Nat.le_refl _) | omega | (dsimp only; omega) | (simp only [World.size_alloc, World.size_setCell, World.size_drew]; omega))) | ((with_reducible refine Below.setCell ?_ ?_ _); rotate_left; (first | (with_reducible exact Nat.zero_le _) | (with_reducible exact Nat.le_refl _) | omega | (dsimp only; omega) | (simp only [World.size_alloc, World.size_setCell, World.size_drew]; omega))))
  have BX := Blk.new w 44 #[.int .i64 pa, .int .i64 pb, .int .i64 ps, .int .i64 pt, .int .i64 tm]
  dsimp only at *
  generalize conB S ⟨pa, pb, ps, pt, tm⟩ = R at *
  generalize prE S ⟨pa, pb, ps, pt, tm⟩ = E at *
  generalize prC S ⟨pa, pb, ps, pt, tm⟩ = D at *
  rcases hcas with ⟨rfl, hc⟩ | ⟨c1, c2, c3, c4, hc⟩
  · rw [HN.out (by decide)]
    clear hcon HY
    rcases hc with d1 | ⟨d1, d2⟩ | ⟨d1, d2, d3⟩ | ⟨d1, d2, d3, d4⟩
    all_goals (
      go_enter Try.func31, Try.ntmps31
      go_wp2_with fail
      refine bodyPost_ret (v := .tuple #[.bool false, .int .i64 7]) (by simp only [results, Try.results31]; go_simp; first | done | rfl) rfl ?_
      exact ⟨rfl, hb⟩)
  rcases hc with ⟨rfl, d5⟩ | ⟨d5, hc⟩
  · rw [HN.out (by decide)]
    clear hcon HY
    subst d5
    go_enter Try.func31, Try.ntmps31
    go_wp2_with fail
    refine bodyPost_ret (v := .tuple #[.bool false, .int .i64 6]) (by simp only [results, Try.results31]; go_simp; first | done | rfl) rfl ?_
    exact ⟨rfl, hb⟩
  obtain ⟨A, rfl⟩ : ∃ A : Nat, pa = A := ⟨pa.toNat, by omega⟩
  obtain ⟨B, rfl⟩ : ∃ B : Nat, pb = B := ⟨pb.toNat, by omega⟩
  obtain ⟨sb, so, hso, hsz, hsc⟩ := HS.out (by rintro rfl; simp at c2)
  subst hso
  have xA := hsc A _ (getD_of (d := sc0) (by omega))
  have xB := hsc B _ (getD_of (d := sc0) (by omega))
  have hta := fun w => rtrue_any (S.getD A sc0).a (S.getD A sc0).b (S.getD A sc0).c (S.getD A sc0).d (S.getD A sc0).e (S.getD A sc0).f ps tm w
  have htb := fun w => rtrue_any (S.getD B sc0).a (S.getD B sc0).b (S.getD B sc0).c (S.getD B sc0).d (S.getD B sc0).e (S.getD B sc0).f pt tm w
  simp only [Int.toNat_natCast] at hc hcon
  rw [show trn (S.getD A sc0).a (S.getD A sc0).b (S.getD A sc0).c (S.getD A sc0).d (S.getD A sc0).e (S.getD A sc0).f ps tm = trnS (S.getD A sc0) ps tm from rfl, show trlo (S.getD A sc0).a (S.getD A sc0).b (S.getD A sc0).c (S.getD A sc0).d (S.getD A sc0).e (S.getD A sc0).f ps tm = loS (S.getD A sc0) ps tm from rfl, show trhi (S.getD A sc0).a (S.getD A sc0).b (S.getD A sc0).c (S.getD A sc0).d (S.getD A sc0).e (S.getD A sc0).f ps tm = hiS (S.getD A sc0) ps tm from rfl] at hta
  rw [show trn (S.getD B sc0).a (S.getD B sc0).b (S.getD B sc0).c (S.getD B sc0).d (S.getD B sc0).e (S.getD B sc0).f pt tm = trnS (S.getD B sc0) pt tm from rfl, show trlo (S.getD B sc0).a (S.getD B sc0).b (S.getD B sc0).c (S.getD B sc0).d (S.getD B sc0).e (S.getD B sc0).f pt tm = loS (S.getD B sc0) pt tm from rfl, show trhi (S.getD B sc0).a (S.getD B sc0).b (S.getD B sc0).c (S.getD B sc0).d (S.getD B sc0).e (S.getD B sc0).f pt tm = hiS (S.getD B sc0) pt tm from rfl] at htb
  generalize trnS (S.getD A sc0) ps tm = EA at *
  generalize trnS (S.getD B sc0) pt tm = EB at *
  generalize loS (S.getD A sc0) ps tm = LA at *
  generalize loS (S.getD B sc0) pt tm = LB at *
  generalize hiS (S.getD A sc0) ps tm = UA at *
  generalize hiS (S.getD B sc0) pt tm = UB at *
  generalize S.getD A sc0 = x at *
  generalize S.getD B sc0 = y at *
  have hax : (0 : Int) ≤ A ∧ (A : Int) < S.length ∧ (0 : Int) ≤ B ∧ (B : Int) < S.length := by omega
  obtain ⟨a1, a2, a3, a4⟩ := hax
  go_enter Try.func31, Try.ntmps31
  go_upto_region 5 with fail
  generalize w.alloc (.cells #[.int .i64 (A : Int), .int .i64 (B : Int), .int .i64 ps, .int .i64 pt, .int .i64 tm] 44) = wb at *
  generalize hbx : w.heap.size = bx at *
  have cx := BX.cell
  have lx := BX.lt
  have q : ∀ j, World.cell? wb ⟨sb, j, none⟩ = w.cell? ⟨sb, j, none⟩ := fun j => hb.cell (p := ⟨sb, j, none⟩) hsz
  have d0 : World.cell? wb ⟨sb, so + A * 6, none⟩ = some (.int .i64 x.a) := (q _).trans (xA 0 (by omega))
  have d1 : World.cell? wb ⟨sb, so + A * 6 + 1, none⟩ = some (.int .i64 x.b) := (q _).trans (xA 1 (by omega))
  have d2 : World.cell? wb ⟨sb, so + A * 6 + 2, none⟩ = some (.int .i64 x.c) := (q _).trans (xA 2 (by omega))
  have d3 : World.cell? wb ⟨sb, so + A * 6 + 3, none⟩ = some (.int .i64 x.d) := (q _).trans (xA 3 (by omega))
  have d4 : World.cell? wb ⟨sb, so + A * 6 + 4, none⟩ = some (.int .i64 x.e) := (q _).trans (xA 4 (by omega))
  have d5 : World.cell? wb ⟨sb, so + A * 6 + 5, none⟩ = some (.int .i64 x.f) := (q _).trans (xA 5 (by omega))
  clear q
  have c0 : World.cell? wb ⟨bx, 0, none⟩ = some (.int .i64 (A : Int)) := cx 0
  have c2 : World.cell? wb ⟨bx, 2, none⟩ = some (.int .i64 ps) := cx 2
  have c4 : World.cell? wb ⟨bx, 4, none⟩ = some (.int .i64 tm) := cx 4
  clear cx
  have lsb : sb < wb.heap.size := by omega
  have nb1 : bx ≠ wb.heap.size := by omega
  have nb2 : sb ≠ wb.heap.size := by omega
  have nb3 : wb.heap.size ≠ bx := by omega
  have nb4 : wb.heap.size ≠ sb := by omega
  go_cut [6, 7] (fun v6 v7 wx => ∃ g, v6 = .pointer (some ⟨g, 0, none⟩) ∧ v7 = .int .i64 EA ∧ Below wb.heap.size wb wx ∧ wb.heap.size ≤ g ∧ Blk wx g 35 #[.int .i64 LA, .int .i64 UA])
  case first =>
    go_region_held3 (fun w' => w'.cell? ⟨bx, 0, none⟩ = some (.int .i64 (A : Int)) ∧ w'.cell? ⟨bx, 2, none⟩ = some (.int .i64 ps) ∧ w'.cell? ⟨bx, 4, none⟩ = some (.int .i64 tm) ∧ w'.cell? ⟨sb, so + A * 6, none⟩ = some (.int .i64 x.a) ∧ w'.cell? ⟨sb, so + A * 6 + 1, none⟩ = some (.int .i64 x.b) ∧ w'.cell? ⟨sb, so + A * 6 + 2, none⟩ = some (.int .i64 x.c) ∧ w'.cell? ⟨sb, so + A * 6 + 3, none⟩ = some (.int .i64 x.d) ∧ w'.cell? ⟨sb, so + A * 6 + 4, none⟩ = some (.int .i64 x.e) ∧ w'.cell? ⟨sb, so + A * 6 + 5, none⟩ = some (.int .i64 x.f)) (go_keep) ((first
        | (go_at_call 48; refine (hta _).mono ?_; rintro e w5 ⟨rfl, hb5⟩; have hbw : Below (wb).heap.size (wb) w5 := (((Below.refl (wb).heap.size (wb)).alloc (Nat.le_refl _) (.cells #[.int .i64 0, .int .i64 0] 35)).drew).trans (hb5.mono (Nat.le_of_lt (lt_alloc_drew _ _))); have BN : Blk w5 (wb).heap.size 35 #[.int .i64 0, .int .i64 0] := ((Blk.new (wb) 35 #[.int .i64 0, .int .i64 0]).drew).step hb5; have tc := BN.cell; have tf := BN.free; have tl := BN.lt; have k0 := (hbw.cell (p := ⟨bx, 0, none⟩) lx).trans c0; have k2 := (hbw.cell (p := ⟨bx, 2, none⟩) lx).trans c2; have k4 := (hbw.cell (p := ⟨bx, 4, none⟩) lx).trans c4; have q := fun j => hbw.cell (p := ⟨sb, j, none⟩) lsb; have f0 := (q _).trans d0; have f1 := (q _).trans d1; have f2 := (q _).trans d2; have f3 := (q _).trans d3; have f4 := (q _).trans d4; have f5 := (q _).trans d5; clear q)
        | (go_at_call 48; refine (hta _).mono ?_; rintro e w5 ⟨rfl, hb5⟩; have hbw : Below (wb).heap.size (wb) w5 := (Below.refl (wb).heap.size (wb)).drew.trans (hb5.mono (Nat.le_refl _)); have BN := Blk.new w5 35 #[.int .i64 LA, .int .i64 UA]; have tc := True.intro; have tf := tc; have tl := tc; have k0 := (hbw.cell (p := ⟨bx, 0, none⟩) lx).trans c0; have k2 := (hbw.cell (p := ⟨bx, 2, none⟩) lx).trans c2; have k4 := (hbw.cell (p := ⟨bx, 4, none⟩) lx).trans c4; have q := fun j => hbw.cell (p := ⟨sb, j, none⟩) lsb; have f0 := (q _).trans d0; have f1 := (q _).trans d1; have f2 := (q _).trans d2; have f3 := (q _).trans d3; have f4 := (q _).trans d4; have f5 := (q _).trans d5; clear q)))
    all_goals (
      have hz5 := hbw.size
      clear k0 k2 k4 f0 f1 f2 f3 f4 f5 tc tf tl c0 c2 c4 d0 d1 d2 d3 d4 d5
      go_wp2_with fail
      go_meet
      refine ⟨_, rfl, rfl, ?_, by first | exact Nat.le_refl _ | exact hbw.size, ?_⟩
      · repeat (first | (with_reducible exact Below.refl _ _) | (with_reducible assumption) | (with_reducible refine Below.drew ?_) | ((with_reducible refine Below.alloc ?_ ?_ _); rotate_left; (first | (with_reducible exact Nat.zero_le _) | (with_reducible exact Nat.le_refl _) | omega | (dsimp only; omega) | (simp only [World.size_alloc, World.size_setCell, World.size_drew]; omega))) | ((with_reducible refine Below.setCell ?_ ?_ _); rotate_left; (first | (with_reducible exact Nat.zero_le _) | (with_reducible exact Nat.le_refl _) | omega | (dsimp only; omega) | (simp only [World.size_alloc, World.size_setCell, World.size_drew]; omega))))
      · first | exact (BN.put 0 (.int .i64 LA)).put 1 (.int .i64 UA) | exact BN)
  case rest =>
    obtain ⟨gt, rfl, rfl, hb1, hgt, BT⟩ := hcut
    clear c0 c2 c4 d0 d1 d2 d3 d4 d5 lsb
    replace BX := BX.step hb1
    replace hb := hb.trans (hb1.mono (by omega))
    have hbg : bx < gt := by omega
    clear hb1 hgt lx
    rcases hc with ⟨n1, hc⟩ | ⟨n1, hc⟩
    · have n1' : (EA != 0) = true := by simpa using n1
      go_wp2_with fail
      refine bodyPost_ret (v := .tuple #[.bool false, .int .i64 EA]) (by simp only [results, Try.results31]; go_simp; first | done | rfl) rfl ?_
      exact ⟨by rw [HN.out (by rw [hc]; exact n1)], hb⟩
    subst n1
    go_upto_region 8 with fail
    have cx := BX.cell
    have lx := BX.lt
    have lt := BT.lt
    have q : ∀ j, World.cell? wc ⟨sb, j, none⟩ = w.cell? ⟨sb, j, none⟩ := fun j => hb.cell (p := ⟨sb, j, none⟩) hsz
    have d0 : World.cell? wc ⟨sb, so + B * 6, none⟩ = some (.int .i64 y.a) := (q _).trans (xB 0 (by omega))
    have d1 : World.cell? wc ⟨sb, so + B * 6 + 1, none⟩ = some (.int .i64 y.b) := (q _).trans (xB 1 (by omega))
    have d2 : World.cell? wc ⟨sb, so + B * 6 + 2, none⟩ = some (.int .i64 y.c) := (q _).trans (xB 2 (by omega))
    have d3 : World.cell? wc ⟨sb, so + B * 6 + 3, none⟩ = some (.int .i64 y.d) := (q _).trans (xB 3 (by omega))
    have d4 : World.cell? wc ⟨sb, so + B * 6 + 4, none⟩ = some (.int .i64 y.e) := (q _).trans (xB 4 (by omega))
    have d5 : World.cell? wc ⟨sb, so + B * 6 + 5, none⟩ = some (.int .i64 y.f) := (q _).trans (xB 5 (by omega))
    clear q
    have c0 : World.cell? wc ⟨bx, 1, none⟩ = some (.int .i64 (B : Int)) := cx 1
    have c2 : World.cell? wc ⟨bx, 3, none⟩ = some (.int .i64 pt) := cx 3
    have c4 : World.cell? wc ⟨bx, 4, none⟩ = some (.int .i64 tm) := cx 4
    clear cx
    have lsb : sb < wc.heap.size := by omega
    have nb1 : bx ≠ wc.heap.size := by omega
    have nb2 : sb ≠ wc.heap.size := by omega
    have nb3 : wc.heap.size ≠ bx := by omega
    have nb4 : wc.heap.size ≠ sb := by omega
    go_cut [7, 8] (fun v7 v8 wx => ∃ g, v8 = .pointer (some ⟨g, 0, none⟩) ∧ v7 = .int .i64 EB ∧ Below wc.heap.size wc wx ∧ wc.heap.size ≤ g ∧ Blk wx g 35 #[.int .i64 LB, .int .i64 UB])
    case first =>
      go_region_held3 (fun w' => w'.cell? ⟨bx, 1, none⟩ = some (.int .i64 (B : Int)) ∧ w'.cell? ⟨bx, 3, none⟩ = some (.int .i64 pt) ∧ w'.cell? ⟨bx, 4, none⟩ = some (.int .i64 tm) ∧ w'.cell? ⟨sb, so + B * 6, none⟩ = some (.int .i64 y.a) ∧ w'.cell? ⟨sb, so + B * 6 + 1, none⟩ = some (.int .i64 y.b) ∧ w'.cell? ⟨sb, so + B * 6 + 2, none⟩ = some (.int .i64 y.c) ∧ w'.cell? ⟨sb, so + B * 6 + 3, none⟩ = some (.int .i64 y.d) ∧ w'.cell? ⟨sb, so + B * 6 + 4, none⟩ = some (.int .i64 y.e) ∧ w'.cell? ⟨sb, so + B * 6 + 5, none⟩ = some (.int .i64 y.f)) (go_keep) ((first
        | (go_at_call 48; refine (htb _).mono ?_; rintro e w5 ⟨rfl, hb5⟩; have hbw : Below (wc).heap.size (wc) w5 := (((Below.refl (wc).heap.size (wc)).alloc (Nat.le_refl _) (.cells #[.int .i64 0, .int .i64 0] 35)).drew).trans (hb5.mono (Nat.le_of_lt (lt_alloc_drew _ _))); have BN : Blk w5 (wc).heap.size 35 #[.int .i64 0, .int .i64 0] := ((Blk.new (wc) 35 #[.int .i64 0, .int .i64 0]).drew).step hb5; have tc := BN.cell; have tf := BN.free; have tl := BN.lt; have k0 := (hbw.cell (p := ⟨bx, 1, none⟩) lx).trans c0; have k2 := (hbw.cell (p := ⟨bx, 3, none⟩) lx).trans c2; have k4 := (hbw.cell (p := ⟨bx, 4, none⟩) lx).trans c4; have q := fun j => hbw.cell (p := ⟨sb, j, none⟩) lsb; have f0 := (q _).trans d0; have f1 := (q _).trans d1; have f2 := (q _).trans d2; have f3 := (q _).trans d3; have f4 := (q _).trans d4; have f5 := (q _).trans d5; clear q)
        | (go_at_call 48; refine (htb _).mono ?_; rintro e w5 ⟨rfl, hb5⟩; have hbw : Below (wc).heap.size (wc) w5 := (Below.refl (wc).heap.size (wc)).drew.trans (hb5.mono (Nat.le_refl _)); have BN := Blk.new w5 35 #[.int .i64 LB, .int .i64 UB]; have tc := True.intro; have tf := tc; have tl := tc; have k0 := (hbw.cell (p := ⟨bx, 1, none⟩) lx).trans c0; have k2 := (hbw.cell (p := ⟨bx, 3, none⟩) lx).trans c2; have k4 := (hbw.cell (p := ⟨bx, 4, none⟩) lx).trans c4; have q := fun j => hbw.cell (p := ⟨sb, j, none⟩) lsb; have f0 := (q _).trans d0; have f1 := (q _).trans d1; have f2 := (q _).trans d2; have f3 := (q _).trans d3; have f4 := (q _).trans d4; have f5 := (q _).trans d5; clear q)))
      all_goals (
        have hz5 := hbw.size
        clear k0 k2 k4 f0 f1 f2 f3 f4 f5 tc tf tl c0 c2 c4 d0 d1 d2 d3 d4 d5
        go_wp2_with fail
        go_meet
        refine ⟨_, rfl, rfl, ?_, by first | exact Nat.le_refl _ | exact hbw.size, ?_⟩
        · repeat (first | (with_reducible exact Below.refl _ _) | (with_reducible assumption) | (with_reducible refine Below.drew ?_) | ((with_reducible refine Below.alloc ?_ ?_ _); rotate_left; (first | (with_reducible exact Nat.zero_le _) | (with_reducible exact Nat.le_refl _) | omega | (dsimp only; omega) | (simp only [World.size_alloc, World.size_setCell, World.size_drew]; omega))) | ((with_reducible refine Below.setCell ?_ ?_ _); rotate_left; (first | (with_reducible exact Nat.zero_le _) | (with_reducible exact Nat.le_refl _) | omega | (dsimp only; omega) | (simp only [World.size_alloc, World.size_setCell, World.size_drew]; omega))))
        · first | exact (BN.put 0 (.int .i64 LB)).put 1 (.int .i64 UB) | exact BN)
    case rest =>
      obtain ⟨gu, rfl, rfl, hb1, hgu, BU⟩ := hcut
      clear c0 c2 c4 d0 d1 d2 d3 d4 d5 lsb
      replace BT := BT.step hb1
      replace hb := hb.trans (hb1.mono (by omega))
      clear hb1 lx lt
      by_cases n2 : EB = 0
      case neg =>
        have n2' : (EB != 0) = true := by simpa using n2
        go_wp2_with fail
        refine bodyPost_ret (v := .tuple #[.bool false, .int .i64 EB]) (by simp only [results, Try.results31]; go_simp; first | done | rfl) rfl ?_
        exact ⟨by rw [HN.out (by rw [hc]; exact n2)], hb⟩
      subst n2
      have ct := BT.cell
      have cu := BU.cell
      have lt := BT.lt
      have lu := BU.lt
      have HYD := Lib.hid (HY.out hc)
      have HCN := Lib.hid hcon
      clear hcon
      rcases (show UA < LB ∨ (¬ UA < LB ∧ UB < LA) ∨ (¬ UA < LB ∧ ¬ UB < LA) by omega) with t1 | ⟨t1, t2⟩ | ⟨t1, t2⟩
      · go_wp2_with fail
        refine bodyPost_ret (v := .tuple #[.bool true, .int .i64 0]) (by simp only [results, Try.results31]; go_simp; first | done | rfl) rfl ?_
        exact ⟨by rw [HYD.out, HCN.out.2 (.inl t1)], hb⟩
      · go_wp2_with fail
        refine bodyPost_ret (v := .tuple #[.bool true, .int .i64 0]) (by simp only [results, Try.results31]; go_simp; first | done | rfl) rfl ?_
        exact ⟨by rw [HYD.out, HCN.out.2 (.inr t2)], hb⟩
      · go_wp2_with fail
        refine bodyPost_ret (v := .tuple #[.bool false, .int .i64 0]) (by simp only [results, Try.results31]; go_simp; first | done | rfl) rfl ?_
        have : D = false := Bool.eq_false_iff.2 fun h => by have := HCN.out.1 h; omega
        exact ⟨by rw [HYD.out, this], hb⟩

end Go.Proofs.Ytpjdoopcjdbefaa
