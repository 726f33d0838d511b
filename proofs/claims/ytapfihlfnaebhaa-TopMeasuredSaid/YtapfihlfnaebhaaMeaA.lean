/- Contracts: scales of the program and of the reference; the weighings and the net mass of a ticket. -/
import Derived.Test.YtapfihlfnaebhaaMeaP
import Derived.Test.YtapfihlfnaebhaaCalA
import Derived.Deep.RegionHeld3
namespace Go.Proofs.Ytapfihlfnaebhaa
set_option linter.unusedVariables false
set_option linter.unusedSimpArgs false
open Go.RowKit

def SlsRel (w : World) (S : List Sc) (i : Value) (wr : World) : Prop := ∃ k : Nat, k ≤ S.length ∧ i = .int .i64 k ∧ Below w.heap.size w wr
set_option maxRecDepth 100000 in
set_option maxHeartbeats 4000000 in
theorem tscales_any {w : World} {vs : Value} {S : List Sc} (hs : RowIn w vs 6 encS S) (hn : S.length ≤ 16) (hok : ∀ s ∈ S, chkS s = 0) : Calls Try.prog 48 #[vs] w fun e w' => e = .returned (.int .i64 0) ∧ Below w.heap.size w w' := by
  obtain ⟨sa, cs, rfl, s1, s2, _, hs5⟩ := hs.at_
  unfold maxLen at s2
  have HS := Lib.hid hs5
  have HK := Lib.hid hok
  have hn' : ¬ (S.length : Int) > 16 := by omega
  clear hs5 hs hok
  go_enter Try.func48, Try.ntmps48
  go_wp2_with fail
  go_loopw [11] (fun i wr => SlsRel w S i wr) (fun i _ => (S.length - intOf i).toNat)
  case atStart => exact ⟨0, Nat.zero_le _, rfl, Below.refl _ _⟩
  case round =>
    obtain ⟨k, hk, rfl, hb⟩ := hrel
    have hwz := hb.size
    by_cases hlt : k < S.length
    · have hx := getD_of (d := sc0) hlt
      obtain ⟨ob, oo, rfl, hoz, hoc⟩ := HS.out (by rintro rfl; simp at hlt)
      have hkl : (k : Int) < S.length := by omega
      have hk0 : (0 : Int) ≤ k := by omega
      have ec := hoc k _ hx
      have q : ∀ j, wr.cell? ⟨ob, j, none⟩ = w.cell? ⟨ob, j, none⟩ := fun j => hb.cell (p := ⟨ob, j, none⟩) hoz
      have h0 := HK.out _ (List.mem_of_getElem? hx)
      clear hx hoc
      generalize S.getD k sc0 = x at *
      have e0 : World.cell? wr ⟨ob, oo + k * 6, none⟩ = some (.int .i64 x.a) := (q _).trans (ec 0 (by omega))
      have e1 : World.cell? wr ⟨ob, oo + k * 6 + 1, none⟩ = some (.int .i64 x.b) := (q _).trans (ec 1 (by omega))
      have e2 : World.cell? wr ⟨ob, oo + k * 6 + 2, none⟩ = some (.int .i64 x.c) := (q _).trans (ec 2 (by omega))
      have e3 : World.cell? wr ⟨ob, oo + k * 6 + 3, none⟩ = some (.int .i64 x.d) := (q _).trans (ec 3 (by omega))
      have e4 : World.cell? wr ⟨ob, oo + k * 6 + 4, none⟩ = some (.int .i64 x.e) := (q _).trans (ec 4 (by omega))
      have e5 : World.cell? wr ⟨ob, oo + k * 6 + 5, none⟩ = some (.int .i64 x.f) := (q _).trans (ec 5 (by omega))
      clear ec q
      have hv := fun w => check_any x.a x.b x.c x.d x.e x.f w
      rw [show chk x.a x.b x.c x.d x.e x.f = 0 from h0] at hv
      have hb2 : Below w.heap.size w (wr.alloc (.cells (#[.int .i64 (x).a, .int .i64 (x).b, .int .i64 (x).c, .int .i64 (x).d, .int .i64 (x).e, .int .i64 (x).f]) 23)) := by repeat (first | (with_reducible exact Below.refl _ _) | (with_reducible assumption) | (with_reducible refine Below.drew ?_) | ((with_reducible refine Below.alloc ?_ ?_ _); rotate_left; (first | (with_reducible exact Nat.zero_le _) | (with_reducible exact Nat.le_refl _) | omega | (dsimp only; omega) | (simp only [World.size_alloc, World.size_setCell, World.size_drew]; omega))) | ((with_reducible refine Below.setCell ?_ ?_ _); rotate_left; (first | (with_reducible exact Nat.zero_le _) | (with_reducible exact Nat.le_refl _) | omega | (dsimp only; omega) | (simp only [World.size_alloc, World.size_setCell, World.size_drew]; omega))))
      clear h0
      go_wp2_with fail
      refine (hv _).mono ?_
      rintro e w5 ⟨rfl, hb5⟩
      go_wp2_with fail
      go_roundw
      case rel => exact ⟨k + 1, hlt, by simp, hb2.trans (hb5.mono hb2.size)⟩
      case measure => simp [intOf]; omega
    · obtain rfl : k = S.length := by omega
      go_wp2_with fail
      go_ret
      exact ⟨rfl, hb⟩
set_option maxRecDepth 100000 in
set_option maxHeartbeats 4000000 in
theorem rscales_any {w : World} {vs : Value} {S : List Sc} (hs : RowIn w vs 6 encS S) (hn : S.length ≤ 16) (hok : ∀ s ∈ S, chkS s = 0) : Calls Try.prog 45 #[vs] w fun e w' => e = .returned (.int .i64 0) ∧ Below w.heap.size w w' := by
  obtain ⟨sa, cs, rfl, s1, s2, _, hs5⟩ := hs.at_
  unfold maxLen at s2
  have HS := Lib.hid hs5
  have HK := Lib.hid hok
  have hn' : ¬ (S.length : Int) > 16 := by omega
  clear hs5 hs hok
  go_enter Try.func45, Try.ntmps45
  go_wp2_with fail
  go_loopw [3] (fun i wr => SlsRel w S i wr) (fun i _ => (S.length - intOf i).toNat)
  case atStart => exact ⟨0, Nat.zero_le _, rfl, Below.refl _ _⟩
  case round =>
    obtain ⟨k, hk, rfl, hb⟩ := hrel
    have hwz := hb.size
    by_cases hlt : k < S.length
    · have hx := getD_of (d := sc0) hlt
      obtain ⟨ob, oo, rfl, hoz, hoc⟩ := HS.out (by rintro rfl; simp at hlt)
      have hkl : (k : Int) < S.length := by omega
      have hk0 : (0 : Int) ≤ k := by omega
      have ec := hoc k _ hx
      have q : ∀ j, wr.cell? ⟨ob, j, none⟩ = w.cell? ⟨ob, j, none⟩ := fun j => hb.cell (p := ⟨ob, j, none⟩) hoz
      have h0 := HK.out _ (List.mem_of_getElem? hx)
      clear hx hoc
      generalize S.getD k sc0 = x at *
      have e0 : World.cell? wr ⟨ob, oo + k * 6, none⟩ = some (.int .i64 x.a) := (q _).trans (ec 0 (by omega))
      have e1 : World.cell? wr ⟨ob, oo + k * 6 + 1, none⟩ = some (.int .i64 x.b) := (q _).trans (ec 1 (by omega))
      have e2 : World.cell? wr ⟨ob, oo + k * 6 + 2, none⟩ = some (.int .i64 x.c) := (q _).trans (ec 2 (by omega))
      have e3 : World.cell? wr ⟨ob, oo + k * 6 + 3, none⟩ = some (.int .i64 x.d) := (q _).trans (ec 3 (by omega))
      have e4 : World.cell? wr ⟨ob, oo + k * 6 + 4, none⟩ = some (.int .i64 x.e) := (q _).trans (ec 4 (by omega))
      have e5 : World.cell? wr ⟨ob, oo + k * 6 + 5, none⟩ = some (.int .i64 x.f) := (q _).trans (ec 5 (by omega))
      clear ec q
      have hv := fun w => rcheck_any x.a x.b x.c x.d x.e x.f w
      rw [show chk x.a x.b x.c x.d x.e x.f = 0 from h0] at hv
      clear h0
      go_wp2_with fail
      refine (hv _).mono ?_
      rintro e w5 ⟨rfl, hb5⟩
      go_wp2_with fail
      go_roundw
      case rel => exact ⟨k + 1, hlt, by simp, hb.trans (hb5.mono hb.size)⟩
      case measure => simp [intOf]; omega
    · obtain rfl : k = S.length := by omega
      go_wp2_with fail
      go_ret
      exact ⟨rfl, hb⟩
set_option maxRecDepth 100000 in
set_option maxHeartbeats 4000000 in
theorem weighed_any {w : World} {vs : Value} {S : List Sc} {x : Tk} (hs : RowIn w vs 6 encS S) (hx : TkOk S x) (ho : x.tare ≤ x.gross) :
    Calls Try.prog 49 #[vs, .agg #[.int .i64 (x).id, .int .i64 (x).sc, .int .i64 (x).tm, .int .i64 (x).gross, .int .i64 (x).tare, .int .i64 (x).rep]] w fun e w' => e = .returned (.tuple #[.agg #[.int .i64 (gT S x).lo, .int .i64 (gT S x).hi], .agg #[.int .i64 (tT S x).lo, .int .i64 (tT S x).hi], .int .i64 0]) ∧ Below w.heap.size w w' := by
  obtain ⟨sa, cs, rfl, s1, s2, _, hs5⟩ := hs.at_
  unfold maxLen at s2
  have a1 := hx.id1
  have a2 := hx.id2
  have a3 := hx.s0
  have a4 := hx.s1
  obtain ⟨a5, a6⟩ := hx.time
  have hcg : ∀ w, Calls Try.prog 9 #[.agg #[.int .i64 (scT S x).a, .int .i64 (scT S x).b, .int .i64 (scT S x).c, .int .i64 (scT S x).d, .int .i64 (scT S x).e, .int .i64 (scT S x).f], .int .i64 x.gross, .int .i64 x.tm] w fun e w' => e = .returned (.tuple #[.agg #[.int .i64 (gT S x).lo, .int .i64 (gT S x).hi], .int .i64 0]) ∧ Below w.heap.size w w' := fun w => by
    have h := true_any (scT S x).a (scT S x).b (scT S x).c (scT S x).d (scT S x).e (scT S x).f x.gross x.tm w
    rw [show trn (scT S x).a (scT S x).b (scT S x).c (scT S x).d (scT S x).e (scT S x).f x.gross x.tm = 0 from hx.tg] at h
    exact h
  have hct : ∀ w, Calls Try.prog 9 #[.agg #[.int .i64 (scT S x).a, .int .i64 (scT S x).b, .int .i64 (scT S x).c, .int .i64 (scT S x).d, .int .i64 (scT S x).e, .int .i64 (scT S x).f], .int .i64 x.tare, .int .i64 x.tm] w fun e w' => e = .returned (.tuple #[.agg #[.int .i64 (tT S x).lo, .int .i64 (tT S x).hi], .int .i64 0]) ∧ Below w.heap.size w w' := fun w => by
    have h := true_any (scT S x).a (scT S x).b (scT S x).c (scT S x).d (scT S x).e (scT S x).f x.tare x.tm w
    rw [show trn (scT S x).a (scT S x).b (scT S x).c (scT S x).d (scT S x).e (scT S x).f x.tare x.tm = 0 from hx.tt] at h
    exact h
  obtain ⟨A, hA⟩ : ∃ A : Nat, x.sc = A := ⟨x.sc.toNat, by omega⟩
  have hAl : A < S.length := by omega
  obtain ⟨ob, oo, rfl, hoz, hoc⟩ := hs5 (by rintro rfl; simp at hAl)
  have ec := hoc A (scT S x) (by unfold scT; rw [hA]; exact getD_of hAl)
  clear hs hs5 hx hoc
  generalize gT S x = g at *
  generalize tT S x = t at *
  generalize scT S x = y at *
  obtain ⟨id, sc, tm, gross, tare, rep⟩ := x
  dsimp only at *
  subst hA
  have E0 : ∀ j, j < 6 → w.cell? ⟨ob, oo + A * 6 + j, none⟩ = (encS y)[j]? := ec
  have hAs : (A : Int) < S.length := a4
  have CG := Lib.hid hcg
  have CT := Lib.hid hct
  have EE := Lib.hid E0
  clear ec hcg hct E0
  go_enter Try.func49, Try.ntmps49
  go_wp2_with fail
  have hbx : Below w.heap.size w (((w.alloc (.cells #[.int .i64 id, .int .i64 (A : Int), .int .i64 tm, .int .i64 gross, .int .i64 tare, .int .i64 rep] 63)).alloc (.cells #[.int .i64 0, .int .i64 0] 32)).alloc (.cells #[.int .i64 0, .int .i64 0] 32)) := by repeat (first | (with_reducible exact Below.refl _ _) | (with_reducible assumption) | (with_reducible refine Below.drew ?_) | ((with_reducible refine Below.alloc ?_ ?_ _); rotate_left; (first | (with_reducible exact Nat.zero_le _) | (with_reducible exact Nat.le_refl _) | omega | (dsimp only; omega) | (simp only [World.size_alloc, World.size_setCell, World.size_drew]; omega))) | ((with_reducible refine Below.setCell ?_ ?_ _); rotate_left; (first | (with_reducible exact Nat.zero_le _) | (with_reducible exact Nat.le_refl _) | omega | (dsimp only; omega) | (simp only [World.size_alloc, World.size_setCell, World.size_drew]; omega))))
  have BX := (((Blk.new w 63 #[.int .i64 id, .int .i64 (A : Int), .int .i64 tm, .int .i64 gross, .int .i64 tare, .int .i64 rep]).alloc (.cells #[.int .i64 0, .int .i64 0] 32)).alloc (.cells #[.int .i64 0, .int .i64 0] 32))
  have B4 := ((Blk.new (w.alloc (.cells #[.int .i64 id, .int .i64 (A : Int), .int .i64 tm, .int .i64 gross, .int .i64 tare, .int .i64 rep] 63)) 32 #[.int .i64 0, .int .i64 0]).alloc (.cells #[.int .i64 0, .int .i64 0] 32))
  have B5 := Blk.new ((w.alloc (.cells #[.int .i64 id, .int .i64 (A : Int), .int .i64 tm, .int .i64 gross, .int .i64 tare, .int .i64 rep] 63)).alloc (.cells #[.int .i64 0, .int .i64 0] 32)) 32 #[.int .i64 0, .int .i64 0]
  simp only [World.size_alloc] at B4 B5
  generalize (((w.alloc (.cells #[.int .i64 id, .int .i64 (A : Int), .int .i64 tm, .int .i64 gross, .int .i64 tare, .int .i64 rep] 63)).alloc (.cells #[.int .i64 0, .int .i64 0] 32)).alloc (.cells #[.int .i64 0, .int .i64 0] 32)) = W at *
  have n1 : w.heap.size ≤ w.heap.size := Nat.le_refl _
  have hbx0 := hbx
  obtain ⟨bx, hbe⟩ : ∃ b, w.heap.size = b := ⟨_, rfl⟩
  rw [hbe] at BX B4 B5 ⊢
  have E0 := EE.out
  obtain ⟨b4, hb4⟩ : ∃ b, bx + 1 = b := ⟨_, rfl⟩
  rw [hb4] at B4 B5 ⊢
  obtain ⟨b5, hb5⟩ : ∃ b, b4 + 1 = b := ⟨_, rfl⟩
  rw [hb5] at B5 ⊢
  have m1 : bx ≠ b4 := by omega
  have m2 : b4 ≠ bx := by omega
  have m3 : bx ≠ b5 := by omega
  have m4 : b5 ≠ bx := by omega
  have m5 : b4 ≠ b5 := by omega
  have m6 : b5 ≠ b4 := by omega
  have N4 : w.heap.size ≤ b4 := by omega
  have N5 : w.heap.size ≤ b5 := by omega
  have HN := Lib.hid (And.intro N4 N5)
  clear hb4 hb5
  have cx := BX.cell
  have lx := BX.lt
  have c1 : World.cell? W ⟨bx, 1, none⟩ = some (.int .i64 (A : Int)) := cx 1
  have c2 : World.cell? W ⟨bx, 2, none⟩ = some (.int .i64 tm) := cx 2
  have c3 : World.cell? W ⟨bx, 3, none⟩ = some (.int .i64 gross) := cx 3
  have lsb : ob < W.heap.size := Nat.lt_of_lt_of_le hoz hbx.size
  have q : ∀ j, World.cell? W ⟨ob, j, none⟩ = w.cell? ⟨ob, j, none⟩ := fun j => hbx.cell (p := ⟨ob, j, none⟩) hoz
  have d0 : World.cell? W ⟨ob, oo + A * 6, none⟩ = some (.int .i64 y.a) := (q _).trans (E0 0 (by omega))
  have d1 : World.cell? W ⟨ob, oo + A * 6 + 1, none⟩ = some (.int .i64 y.b) := (q _).trans (E0 1 (by omega))
  have d2 : World.cell? W ⟨ob, oo + A * 6 + 2, none⟩ = some (.int .i64 y.c) := (q _).trans (E0 2 (by omega))
  have d3 : World.cell? W ⟨ob, oo + A * 6 + 3, none⟩ = some (.int .i64 y.d) := (q _).trans (E0 3 (by omega))
  have d4 : World.cell? W ⟨ob, oo + A * 6 + 4, none⟩ = some (.int .i64 y.e) := (q _).trans (E0 4 (by omega))
  have d5 : World.cell? W ⟨ob, oo + A * 6 + 5, none⟩ = some (.int .i64 y.f) := (q _).trans (E0 5 (by omega))
  have nb1 : ob ≠ b4 := by omega
  have nb2 : b4 ≠ ob := by omega
  have nb3 : ob ≠ b5 := by omega
  have nb4 : b5 ≠ ob := by omega
  clear q cx
  go_cut [6] (fun v wx => v = .int .i64 0 ∧ Below w.heap.size w wx ∧ Blk wx bx 63 #[.int .i64 id, .int .i64 (A : Int), .int .i64 tm, .int .i64 gross, .int .i64 tare, .int .i64 rep] ∧ Blk wx b4 32 #[.int .i64 g.lo, .int .i64 g.hi] ∧ Blk wx b5 32 #[.int .i64 0, .int .i64 0])
  case first =>
    go_region_held3 (fun w' => w'.cell? ⟨bx, 1, none⟩ = some (.int .i64 (A : Int)) ∧ w'.cell? ⟨bx, 2, none⟩ = some (.int .i64 tm) ∧ w'.cell? ⟨bx, 3, none⟩ = some (.int .i64 gross) ∧ w'.cell? ⟨ob, oo + A * 6, none⟩ = some (.int .i64 y.a) ∧ w'.cell? ⟨ob, oo + A * 6 + 1, none⟩ = some (.int .i64 y.b) ∧ w'.cell? ⟨ob, oo + A * 6 + 2, none⟩ = some (.int .i64 y.c) ∧ w'.cell? ⟨ob, oo + A * 6 + 3, none⟩ = some (.int .i64 y.d) ∧ w'.cell? ⟨ob, oo + A * 6 + 4, none⟩ = some (.int .i64 y.e) ∧ w'.cell? ⟨ob, oo + A * 6 + 5, none⟩ = some (.int .i64 y.f)) (go_keep) (((go_at_call 9; refine (CG.out _).mono ?_; rintro e w5 ⟨rfl, hb5⟩; have hbw : Below W.heap.size W w5 := (Below.refl W.heap.size W).drew.trans (hb5.mono (Nat.le_refl _)); have k0 := (hbw.cell (p := ⟨bx, 1, none⟩) lx).trans c1; have k2 := (hbw.cell (p := ⟨bx, 2, none⟩) lx).trans c2; have k4 := (hbw.cell (p := ⟨bx, _, none⟩) lx).trans c3; have q := fun j => hbw.cell (p := ⟨ob, j, none⟩) lsb; have f0 := (q _).trans d0; have f1 := (q _).trans d1; have f2 := (q _).trans d2; have f3 := (q _).trans d3; have f4 := (q _).trans d4; have f5 := (q _).trans d5; have P4 := B4.step hbw; have l4 := P4.lt; have u4 := P4.free; have v4 := P4.cell; have P5 := B5.step hbw; have l5 := P5.lt; have u5 := P5.free; have v5 := P5.cell; clear q)))
    all_goals (
      clear k0 k2 k4 f0 f1 f2 f3 f4 f5 c1 c2 c3 d0 d1 d2 d3 d4 d5 l4 u4 v4 l5 u5 v5
      go_wp2_with fail
      go_meet
      refine ⟨rfl, ?_, (BX.step hbw).far (by assumption) _ |>.far (by assumption) _, (P4.put 0 _).put 1 _, (P5.far (by assumption) _).far (by assumption) _⟩
      have hb7 := hbx.trans (hbw.mono hbx.size)
      repeat (first | (with_reducible exact Below.refl _ _) | (with_reducible assumption) | (with_reducible refine Below.drew ?_) | ((with_reducible refine Below.alloc ?_ ?_ _); rotate_left; (first | (with_reducible exact Nat.zero_le _) | (with_reducible exact Nat.le_refl _) | omega | (dsimp only; omega) | (simp only [World.size_alloc, World.size_setCell, World.size_drew]; omega))) | ((with_reducible refine Below.setCell ?_ ?_ _); rotate_left; (first | (with_reducible exact Nat.zero_le _) | (with_reducible exact Nat.le_refl _) | omega | (dsimp only; omega) | (simp only [World.size_alloc, World.size_setCell, World.size_drew]; omega)))))
  clear c1 c2 c3 d0 d1 d2 d3 d4 d5 BX B4 B5 nb1 nb2 nb3 nb4 lx lsb hbx hbx0
  obtain ⟨rfl, hbx, BX, B4, B5⟩ := hcut
  generalize wc = W at *
  go_wp2_with fail
  have cx := BX.cell
  have lx := BX.lt
  have c1 : World.cell? W ⟨bx, 1, none⟩ = some (.int .i64 (A : Int)) := cx 1
  have c2 : World.cell? W ⟨bx, 2, none⟩ = some (.int .i64 tm) := cx 2
  have c3 : World.cell? W ⟨bx, 4, none⟩ = some (.int .i64 tare) := cx 4
  have lsb : ob < W.heap.size := Nat.lt_of_lt_of_le hoz hbx.size
  have q : ∀ j, World.cell? W ⟨ob, j, none⟩ = w.cell? ⟨ob, j, none⟩ := fun j => hbx.cell (p := ⟨ob, j, none⟩) hoz
  have d0 : World.cell? W ⟨ob, oo + A * 6, none⟩ = some (.int .i64 y.a) := (q _).trans (E0 0 (by omega))
  have d1 : World.cell? W ⟨ob, oo + A * 6 + 1, none⟩ = some (.int .i64 y.b) := (q _).trans (E0 1 (by omega))
  have d2 : World.cell? W ⟨ob, oo + A * 6 + 2, none⟩ = some (.int .i64 y.c) := (q _).trans (E0 2 (by omega))
  have d3 : World.cell? W ⟨ob, oo + A * 6 + 3, none⟩ = some (.int .i64 y.d) := (q _).trans (E0 3 (by omega))
  have d4 : World.cell? W ⟨ob, oo + A * 6 + 4, none⟩ = some (.int .i64 y.e) := (q _).trans (E0 4 (by omega))
  have d5 : World.cell? W ⟨ob, oo + A * 6 + 5, none⟩ = some (.int .i64 y.f) := (q _).trans (E0 5 (by omega))
  have nb1 : ob ≠ b4 := by omega
  have nb2 : b4 ≠ ob := by omega
  have nb3 : ob ≠ b5 := by omega
  have nb4 : b5 ≠ ob := by omega
  clear q cx
  go_cut [6] (fun v wx => v = .int .i64 0 ∧ Below w.heap.size w wx ∧ Blk wx bx 63 #[.int .i64 id, .int .i64 (A : Int), .int .i64 tm, .int .i64 gross, .int .i64 tare, .int .i64 rep] ∧ Blk wx b4 32 #[.int .i64 g.lo, .int .i64 g.hi] ∧ Blk wx b5 32 #[.int .i64 t.lo, .int .i64 t.hi])
  case first =>
    go_region_held3 (fun w' => w'.cell? ⟨bx, 1, none⟩ = some (.int .i64 (A : Int)) ∧ w'.cell? ⟨bx, 2, none⟩ = some (.int .i64 tm) ∧ w'.cell? ⟨bx, 4, none⟩ = some (.int .i64 tare) ∧ w'.cell? ⟨ob, oo + A * 6, none⟩ = some (.int .i64 y.a) ∧ w'.cell? ⟨ob, oo + A * 6 + 1, none⟩ = some (.int .i64 y.b) ∧ w'.cell? ⟨ob, oo + A * 6 + 2, none⟩ = some (.int .i64 y.c) ∧ w'.cell? ⟨ob, oo + A * 6 + 3, none⟩ = some (.int .i64 y.d) ∧ w'.cell? ⟨ob, oo + A * 6 + 4, none⟩ = some (.int .i64 y.e) ∧ w'.cell? ⟨ob, oo + A * 6 + 5, none⟩ = some (.int .i64 y.f)) (go_keep) (((go_at_call 9; refine (CT.out _).mono ?_; rintro e w5 ⟨rfl, hb5⟩; have hbw : Below W.heap.size W w5 := (Below.refl W.heap.size W).drew.trans (hb5.mono (Nat.le_refl _)); have k0 := (hbw.cell (p := ⟨bx, 1, none⟩) lx).trans c1; have k2 := (hbw.cell (p := ⟨bx, 2, none⟩) lx).trans c2; have k4 := (hbw.cell (p := ⟨bx, _, none⟩) lx).trans c3; have q := fun j => hbw.cell (p := ⟨ob, j, none⟩) lsb; have f0 := (q _).trans d0; have f1 := (q _).trans d1; have f2 := (q _).trans d2; have f3 := (q _).trans d3; have f4 := (q _).trans d4; have f5 := (q _).trans d5; have P4 := B4.step hbw; have l4 := P4.lt; have u4 := P4.free; have v4 := P4.cell; have P5 := B5.step hbw; have l5 := P5.lt; have u5 := P5.free; have v5 := P5.cell; clear q)))
    all_goals (
      clear k0 k2 k4 f0 f1 f2 f3 f4 f5 c1 c2 c3 d0 d1 d2 d3 d4 d5 l4 u4 v4 l5 u5 v5
      go_wp2_with fail
      go_meet
      refine ⟨rfl, ?_, (BX.step hbw).far (by assumption) _ |>.far (by assumption) _, (P4.far (by assumption) _).far (by assumption) _, (P5.put 0 _).put 1 _⟩
      have hb7 := hbx.trans (hbw.mono hbx.size)
      repeat (first | (with_reducible exact Below.refl _ _) | (with_reducible assumption) | (with_reducible refine Below.drew ?_) | ((with_reducible refine Below.alloc ?_ ?_ _); rotate_left; (first | (with_reducible exact Nat.zero_le _) | (with_reducible exact Nat.le_refl _) | omega | (dsimp only; omega) | (simp only [World.size_alloc, World.size_setCell, World.size_drew]; omega))) | ((with_reducible refine Below.setCell ?_ ?_ _); rotate_left; (first | (with_reducible exact Nat.zero_le _) | (with_reducible exact Nat.le_refl _) | omega | (dsimp only; omega) | (simp only [World.size_alloc, World.size_setCell, World.size_drew]; omega)))))
  clear c1 c2 c3 d0 d1 d2 d3 d4 d5 BX B4 B5 nb1 nb2 nb3 nb4 lx lsb hbx
  obtain ⟨rfl, hbx, BX, B4, B5⟩ := hcut
  generalize wc = W at *
  have l3 := BX.lt
  have v3 := BX.cell
  have c3 := v3 3
  have c4 := v3 4
  have l4 := B4.lt
  have v4 := B4.cell
  have u4 := B4.free
  have l5 := B5.lt
  have v5 := B5.cell
  have u5 := B5.free
  clear v3
  have ho' : ¬ gross < tare := by omega
  go_wp2_with fail
  have N1 : w.heap.size ≤ b4 := HN.out.1
  have N2 : w.heap.size ≤ b5 := HN.out.2
  go_region
  all_goals (
    go_wp2_with fail
    refine bodyPost_ret (v := .tuple #[.agg #[.int .i64 (g).lo, .int .i64 (g).hi], .agg #[.int .i64 (t).lo, .int .i64 (t).hi], .int .i64 0]) (by simp only [results, Try.results49]; go_simp; first | done | rfl) rfl ?_
    exact ⟨rfl, by repeat (first | (with_reducible exact Below.refl _ _) | (with_reducible assumption) | (with_reducible refine Below.drew ?_) | ((with_reducible refine Below.alloc ?_ ?_ _); rotate_left; (first | (with_reducible exact Nat.zero_le _) | (with_reducible exact Nat.le_refl _) | omega | (dsimp only; omega) | (simp only [World.size_alloc, World.size_setCell, World.size_drew]; omega))) | ((with_reducible refine Below.setCell ?_ ?_ _); rotate_left; (first | (with_reducible exact Nat.zero_le _) | (with_reducible exact Nat.le_refl _) | omega | (dsimp only; omega) | (simp only [World.size_alloc, World.size_setCell, World.size_drew]; omega))))⟩)
set_option maxRecDepth 100000 in
set_option maxHeartbeats 4000000 in
theorem tnet_any {w : World} {vs : Value} {S : List Sc} {x : Tk} (hs : RowIn w vs 6 encS S) (hn : S.length ≤ 16) (hok : ∀ s ∈ S, chkS s = 0) (hx : TkOk S x) (ho : x.tare ≤ x.gross) :
    Calls Try.prog 19 #[vs, .agg #[.int .i64 (x).id, .int .i64 (x).sc, .int .i64 (x).tm, .int .i64 (x).gross, .int .i64 (x).tare, .int .i64 (x).rep]] w fun e w' => e = .returned (.tuple #[.agg #[.int .i64 (netT S x).lo, .int .i64 (netT S x).hi], .int .i64 0]) ∧ Below w.heap.size w w' := by
  have hbd := hx.bd
  have h1 := fun (w1 : World) (h : Below w.heap.size w w1) => tscales_any (hs.step h) hn hok
  have h2 := fun (w1 : World) (h : Below w.heap.size w w1) => weighed_any (hs.step h) hx ho
  have H1 := Lib.hid h1
  have H2 := Lib.hid h2
  clear h1 h2 hs hx hok hn
  unfold netT mx0
  obtain ⟨id, sc, tm, gross, tare, rep⟩ := x
  dsimp only at *
  generalize gT S _ = g at *
  generalize tT S _ = t at *
  obtain ⟨LO, hLO⟩ : ∃ x, (if 0 < g.lo - t.hi then g.lo - t.hi else 0) = x := ⟨_, rfl⟩
  obtain ⟨UP, hUP⟩ : ∃ x, (if 0 < g.hi - t.lo then g.hi - t.lo else 0) = x := ⟨_, rfl⟩
  rw [hLO, hUP]
  have HLO := Lib.hid hLO
  have HUP := Lib.hid hUP
  clear hLO hUP
  go_enter Try.func19, Try.ntmps19
  go_wp2_with fail
  have hb1 : Below w.heap.size w ((w.alloc (.cells #[.int .i64 id, .int .i64 sc, .int .i64 tm, .int .i64 gross, .int .i64 tare, .int .i64 rep] 63)).alloc (.cells #[.int .i64 0, .int .i64 0] 32)) := by repeat (first | (with_reducible exact Below.refl _ _) | (with_reducible assumption) | (with_reducible refine Below.drew ?_) | ((with_reducible refine Below.alloc ?_ ?_ _); rotate_left; (first | (with_reducible exact Nat.zero_le _) | (with_reducible exact Nat.le_refl _) | omega | (dsimp only; omega) | (simp only [World.size_alloc, World.size_setCell, World.size_drew]; omega))) | ((with_reducible refine Below.setCell ?_ ?_ _); rotate_left; (first | (with_reducible exact Nat.zero_le _) | (with_reducible exact Nat.le_refl _) | omega | (dsimp only; omega) | (simp only [World.size_alloc, World.size_setCell, World.size_drew]; omega))))
  have BX := (Blk.new w 63 #[.int .i64 id, .int .i64 sc, .int .i64 tm, .int .i64 gross, .int .i64 tare, .int .i64 rep]).alloc (.cells #[.int .i64 0, .int .i64 0] 32)
  have B4 := Blk.new (w.alloc (.cells #[.int .i64 id, .int .i64 sc, .int .i64 tm, .int .i64 gross, .int .i64 tare, .int .i64 rep] 63)) 32 #[.int .i64 0, .int .i64 0]
  simp only [World.size_alloc] at B4
  obtain ⟨b4, hb4⟩ : ∃ b, w.heap.size + 1 = b := ⟨_, rfl⟩
  rw [hb4] at B4 ⊢
  have N4 : w.heap.size ≤ b4 := by omega
  clear hb4
  generalize (w.alloc (.cells #[.int .i64 id, .int .i64 sc, .int .i64 tm, .int .i64 gross, .int .i64 tare, .int .i64 rep] 63)).alloc (.cells #[.int .i64 0, .int .i64 0] 32) = W at *
  refine (H1.out _ hb1).mono ?_
  rintro e w5 ⟨rfl, hb5⟩
  replace BX := BX.step hb5
  replace B4 := B4.step hb5
  replace hb1 := hb1.trans (hb5.mono hb1.size)
  have x0 := BX.cell
  have c0 : World.cell? w5 ⟨w.heap.size, 0, none⟩ = some (.int .i64 id) := x0 0
  have c1 : World.cell? w5 ⟨w.heap.size, 1, none⟩ = some (.int .i64 sc) := x0 1
  have c2 : World.cell? w5 ⟨w.heap.size, 2, none⟩ = some (.int .i64 tm) := x0 2
  have c3 : World.cell? w5 ⟨w.heap.size, 3, none⟩ = some (.int .i64 gross) := x0 3
  have c4 : World.cell? w5 ⟨w.heap.size, 4, none⟩ = some (.int .i64 tare) := x0 4
  have c5 : World.cell? w5 ⟨w.heap.size, 5, none⟩ = some (.int .i64 rep) := x0 5
  clear x0
  go_wp2_with fail
  refine (H2.out _ hb1).mono ?_
  rintro e w6 ⟨rfl, hb6⟩
  replace B4 := B4.step hb6
  replace hb1 := hb1.trans (hb6.mono hb1.size)
  have l4 := B4.lt
  have u4 := B4.free
  have v4 := B4.cell
  clear c0 c1 c2 c3 c4 c5 BX
  have m1 : wrap64 (g.lo - t.hi) = g.lo - t.hi := by unfold wrap64; omega
  have m2 : wrap64 (g.hi - t.lo) = g.hi - t.lo := by unfold wrap64; omega
  clear hbd
  go_wp2_with fail
  all_goals (
    refine bodyPost_ret (v := .tuple #[.agg #[.int .i64 LO, .int .i64 UP], .int .i64 0]) ?_ rfl ⟨rfl, by repeat (first | (with_reducible exact Below.refl _ _) | (with_reducible assumption) | (with_reducible refine Below.drew ?_) | ((with_reducible refine Below.alloc ?_ ?_ _); rotate_left; (first | (with_reducible exact Nat.zero_le _) | (with_reducible exact Nat.le_refl _) | omega | (dsimp only; omega) | (simp only [World.size_alloc, World.size_setCell, World.size_drew]; omega))) | ((with_reducible refine Below.setCell ?_ ?_ _); rotate_left; (first | (with_reducible exact Nat.zero_le _) | (with_reducible exact Nat.le_refl _) | omega | (dsimp only; omega) | (simp only [World.size_alloc, World.size_setCell, World.size_drew]; omega))))⟩
    simp only [results, Try.results19]
    go_simp
    have hLO := HLO.out
    have hUP := HUP.out
    clear HLO HUP H1 H2
    split at hLO <;> split at hUP <;> omega)

end Go.Proofs.Ytapfihlfnaebhaa
