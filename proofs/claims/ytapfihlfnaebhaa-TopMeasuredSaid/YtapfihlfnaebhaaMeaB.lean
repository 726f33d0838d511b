/- Contracts: the reference's check of a list of one ticket. -/
import Derived.Test.YtapfihlfnaebhaaMeaA
import Derived.Deep.RegionHeld3
namespace Go.Proofs.Ytapfihlfnaebhaa
set_option linter.unusedVariables false
set_option linter.unusedSimpArgs false
open Go.RowKit

set_option maxRecDepth 100000 in
set_option maxHeartbeats 4000000 in
theorem rfault_any {w : World} {vs : Value} {S : List Sc} {x : Tk} (hs : RowIn w vs 6 encS S) (hx : TkOk S x) :
    Calls Try.prog 46 #[vs, .agg #[.int .i64 (x).id, .int .i64 (x).sc, .int .i64 (x).tm, .int .i64 (x).gross, .int .i64 (x).tare, .int .i64 (x).rep]] w fun e w' => e = .returned (.int .i64 (if x.gross < x.tare then 9 else 0)) ∧ Below w.heap.size w w' := by
  obtain ⟨sa, cs, rfl, s1, s2, _, hs5⟩ := hs.at_
  unfold maxLen at s2
  have a1 := hx.id1
  have a2 := hx.id2
  have a3 := hx.s0
  have a4 := hx.s1
  obtain ⟨a5, a6⟩ := hx.time
  have hcg : ∀ w, Calls Try.prog 60 #[.agg #[.int .i64 (scT S x).a, .int .i64 (scT S x).b, .int .i64 (scT S x).c, .int .i64 (scT S x).d, .int .i64 (scT S x).e, .int .i64 (scT S x).f], .int .i64 x.gross, .int .i64 x.tm] w fun e w' => e = .returned (.tuple #[.agg #[.int .i64 (gT S x).lo, .int .i64 (gT S x).hi], .int .i64 0]) ∧ Below w.heap.size w w' := fun w => by
    have h := rtrue_any (scT S x).a (scT S x).b (scT S x).c (scT S x).d (scT S x).e (scT S x).f x.gross x.tm w
    rw [show trn (scT S x).a (scT S x).b (scT S x).c (scT S x).d (scT S x).e (scT S x).f x.gross x.tm = 0 from hx.tg] at h
    exact h
  have hct : ∀ w, Calls Try.prog 60 #[.agg #[.int .i64 (scT S x).a, .int .i64 (scT S x).b, .int .i64 (scT S x).c, .int .i64 (scT S x).d, .int .i64 (scT S x).e, .int .i64 (scT S x).f], .int .i64 x.tare, .int .i64 x.tm] w fun e w' => e = .returned (.tuple #[.agg #[.int .i64 (tT S x).lo, .int .i64 (tT S x).hi], .int .i64 0]) ∧ Below w.heap.size w w' := fun w => by
    have h := rtrue_any (scT S x).a (scT S x).b (scT S x).c (scT S x).d (scT S x).e (scT S x).f x.tare x.tm w
    rw [show trn (scT S x).a (scT S x).b (scT S x).c (scT S x).d (scT S x).e (scT S x).f x.tare x.tm = 0 from hx.tt] at h
    exact h
  obtain ⟨A, hA⟩ : ∃ A : Nat, x.sc = A := ⟨x.sc.toNat, by omega⟩
  have hAl : A < S.length := by omega
  obtain ⟨ob, oo, rfl, hoz, hoc⟩ := hs5 (by rintro rfl; simp at hAl)
  have ec := hoc A (scT S x) (by unfold scT; rw [hA]; exact getD_of hAl)
  clear hs hs5 hx hoc
  generalize gT S x = g at *
  generalize tT S x = t at *
  generalize scT S x = y at *
  obtain ⟨id, sc, tm, gross, tare, rep⟩ := x
  dsimp only at *
  subst hA
  have E0 : ∀ j, j < 6 → w.cell? ⟨ob, oo + A * 6 + j, none⟩ = (encS y)[j]? := ec
  have hAs : (A : Int) < S.length := a4
  have CG := Lib.hid hcg
  have CT := Lib.hid hct
  have EE := Lib.hid E0
  clear ec hcg hct E0
  obtain ⟨R, hR⟩ : ∃ R : Int, (if gross < tare then 9 else 0) = R := ⟨_, rfl⟩
  rw [hR]
  have HR := Lib.hid hR
  clear hR
  go_enter Try.func46, Try.ntmps46
  go_wp2_with fail
  have hbx : Below w.heap.size w (w.alloc (.cells #[.int .i64 id, .int .i64 (A : Int), .int .i64 tm, .int .i64 gross, .int .i64 tare, .int .i64 rep] 63)) := by repeat (first | (with_reducible exact Below.refl _ _) | (with_reducible assumption) | (with_reducible refine Below.drew ?_) | ((with_reducible refine Below.alloc ?_ ?_ _); rotate_left; (first | (with_reducible exact Nat.zero_le _) | (with_reducible exact Nat.le_refl _) | omega | (dsimp only; omega) | (simp only [World.size_alloc, World.size_setCell, World.size_drew]; omega))) | ((with_reducible refine Below.setCell ?_ ?_ _); rotate_left; (first | (with_reducible exact Nat.zero_le _) | (with_reducible exact Nat.le_refl _) | omega | (dsimp only; omega) | (simp only [World.size_alloc, World.size_setCell, World.size_drew]; omega))))
  have BX := (Blk.new w 63 #[.int .i64 id, .int .i64 (A : Int), .int .i64 tm, .int .i64 gross, .int .i64 tare, .int .i64 rep])
  generalize w.alloc (.cells #[.int .i64 id, .int .i64 (A : Int), .int .i64 tm, .int .i64 gross, .int .i64 tare, .int .i64 rep] 63) = W at *
  obtain ⟨bx, hbe⟩ : ∃ b, w.heap.size = b := ⟨_, rfl⟩
  rw [hbe] at BX ⊢
  have E0 := EE.out
  skip
  have cx := BX.cell
  have lx := BX.lt
  have c1 : World.cell? W ⟨bx, 1, none⟩ = some (.int .i64 (A : Int)) := cx 1
  have c2 : World.cell? W ⟨bx, 2, none⟩ = some (.int .i64 tm) := cx 2
  have c3 : World.cell? W ⟨bx, 3, none⟩ = some (.int .i64 gross) := cx 3
  have lsb : ob < W.heap.size := Nat.lt_of_lt_of_le hoz hbx.size
  have q : ∀ j, World.cell? W ⟨ob, j, none⟩ = w.cell? ⟨ob, j, none⟩ := fun j => hbx.cell (p := ⟨ob, j, none⟩) hoz
  have d0 : World.cell? W ⟨ob, oo + A * 6, none⟩ = some (.int .i64 y.a) := (q _).trans (E0 0 (by omega))
  have d1 : World.cell? W ⟨ob, oo + A * 6 + 1, none⟩ = some (.int .i64 y.b) := (q _).trans (E0 1 (by omega))
  have d2 : World.cell? W ⟨ob, oo + A * 6 + 2, none⟩ = some (.int .i64 y.c) := (q _).trans (E0 2 (by omega))
  have d3 : World.cell? W ⟨ob, oo + A * 6 + 3, none⟩ = some (.int .i64 y.d) := (q _).trans (E0 3 (by omega))
  have d4 : World.cell? W ⟨ob, oo + A * 6 + 4, none⟩ = some (.int .i64 y.e) := (q _).trans (E0 4 (by omega))
  have d5 : World.cell? W ⟨ob, oo + A * 6 + 5, none⟩ = some (.int .i64 y.f) := (q _).trans (E0 5 (by omega))
  have nb1 : bx ≠ W.heap.size := by omega
  have nb2 : ob ≠ W.heap.size := by omega
  have nb3 : W.heap.size ≠ bx := by omega
  have nb4 : W.heap.size ≠ ob := by omega
  clear q cx
  go_cut [6] (fun v wx => v = .int .i64 0 ∧ Below w.heap.size w wx ∧ Blk wx bx 63 #[.int .i64 id, .int .i64 (A : Int), .int .i64 tm, .int .i64 gross, .int .i64 tare, .int .i64 rep])
  case first =>
    go_region_held3 (fun w' => w'.cell? ⟨bx, 1, none⟩ = some (.int .i64 (A : Int)) ∧ w'.cell? ⟨bx, 2, none⟩ = some (.int .i64 tm) ∧ w'.cell? ⟨bx, 3, none⟩ = some (.int .i64 gross) ∧ w'.cell? ⟨ob, oo + A * 6, none⟩ = some (.int .i64 y.a) ∧ w'.cell? ⟨ob, oo + A * 6 + 1, none⟩ = some (.int .i64 y.b) ∧ w'.cell? ⟨ob, oo + A * 6 + 2, none⟩ = some (.int .i64 y.c) ∧ w'.cell? ⟨ob, oo + A * 6 + 3, none⟩ = some (.int .i64 y.d) ∧ w'.cell? ⟨ob, oo + A * 6 + 4, none⟩ = some (.int .i64 y.e) ∧ w'.cell? ⟨ob, oo + A * 6 + 5, none⟩ = some (.int .i64 y.f)) (go_keep) ((first
      | (go_at_call 60; refine (CG.out _).mono ?_; rintro e w5 ⟨rfl, hb5⟩; have hbw : Below W.heap.size W w5 := (((Below.refl W.heap.size W).alloc (Nat.le_refl _) (.cells #[.int .i64 0, .int .i64 0] 32)).drew).trans (hb5.mono (Nat.le_of_lt (lt_alloc_drew _ _))); have BN : Blk w5 W.heap.size 32 #[.int .i64 0, .int .i64 0] := ((Blk.new W 32 #[.int .i64 0, .int .i64 0]).drew).step hb5; have tc := BN.cell; have tf := BN.free; have tl := BN.lt; have k0 := (hbw.cell (p := ⟨bx, 1, none⟩) lx).trans c1; have k2 := (hbw.cell (p := ⟨bx, 2, none⟩) lx).trans c2; have k4 := (hbw.cell (p := ⟨bx, _, none⟩) lx).trans c3; have q := fun j => hbw.cell (p := ⟨ob, j, none⟩) lsb; have f0 := (q _).trans d0; have f1 := (q _).trans d1; have f2 := (q _).trans d2; have f3 := (q _).trans d3; have f4 := (q _).trans d4; have f5 := (q _).trans d5; clear q)
      | (go_at_call 60; refine (CG.out _).mono ?_; rintro e w5 ⟨rfl, hb5⟩; have hbw : Below W.heap.size W w5 := (Below.refl W.heap.size W).drew.trans (hb5.mono (Nat.le_refl _)); have BN := True.intro; have tc := True.intro; have tf := tc; have tl := tc; have k0 := (hbw.cell (p := ⟨bx, 1, none⟩) lx).trans c1; have k2 := (hbw.cell (p := ⟨bx, 2, none⟩) lx).trans c2; have k4 := (hbw.cell (p := ⟨bx, _, none⟩) lx).trans c3; have q := fun j => hbw.cell (p := ⟨ob, j, none⟩) lsb; have f0 := (q _).trans d0; have f1 := (q _).trans d1; have f2 := (q _).trans d2; have f3 := (q _).trans d3; have f4 := (q _).trans d4; have f5 := (q _).trans d5; clear q)))
    all_goals (
      have hz5 := hbw.size
      have hb7 := hbx.trans (hbw.mono hbx.size)
      have P4 := BX.step hbw
      clear k0 k2 k4 f0 f1 f2 f3 f4 f5 c1 c2 c3 d0 d1 d2 d3 d4 d5 tc tf tl
      go_wp2_with fail
      go_meet
      refine ⟨rfl, by repeat (first | (with_reducible exact Below.refl _ _) | (with_reducible assumption) | (with_reducible refine Below.drew ?_) | ((with_reducible refine Below.alloc ?_ ?_ _); rotate_left; (first | (with_reducible exact Nat.zero_le _) | (with_reducible exact Nat.le_refl _) | omega | (dsimp only; omega) | (simp only [World.size_alloc, World.size_setCell, World.size_drew]; omega))) | ((with_reducible refine Below.setCell ?_ ?_ _); rotate_left; (first | (with_reducible exact Nat.zero_le _) | (with_reducible exact Nat.le_refl _) | omega | (dsimp only; omega) | (simp only [World.size_alloc, World.size_setCell, World.size_drew]; omega)))), ?_⟩
      first | exact P4 | exact (P4.far (by assumption) _).far (by assumption) _ | exact P4.alloc _)
  clear c1 c2 c3 d0 d1 d2 d3 d4 d5 BX nb1 nb2 nb3 nb4 lx lsb hbx
  obtain ⟨rfl, hbx, BX⟩ := hcut
  generalize wc = W at *
  go_wp2_with fail
  skip
  have cx := BX.cell
  have lx := BX.lt
  have c1 : World.cell? W ⟨bx, 1, none⟩ = some (.int .i64 (A : Int)) := cx 1
  have c2 : World.cell? W ⟨bx, 2, none⟩ = some (.int .i64 tm) := cx 2
  have c3 : World.cell? W ⟨bx, 4, none⟩ = some (.int .i64 tare) := cx 4
  have lsb : ob < W.heap.size := Nat.lt_of_lt_of_le hoz hbx.size
  have q : ∀ j, World.cell? W ⟨ob, j, none⟩ = w.cell? ⟨ob, j, none⟩ := fun j => hbx.cell (p := ⟨ob, j, none⟩) hoz
  have d0 : World.cell? W ⟨ob, oo + A * 6, none⟩ = some (.int .i64 y.a) := (q _).trans (E0 0 (by omega))
  have d1 : World.cell? W ⟨ob, oo + A * 6 + 1, none⟩ = some (.int .i64 y.b) := (q _).trans (E0 1 (by omega))
  have d2 : World.cell? W ⟨ob, oo + A * 6 + 2, none⟩ = some (.int .i64 y.c) := (q _).trans (E0 2 (by omega))
  have d3 : World.cell? W ⟨ob, oo + A * 6 + 3, none⟩ = some (.int .i64 y.d) := (q _).trans (E0 3 (by omega))
  have d4 : World.cell? W ⟨ob, oo + A * 6 + 4, none⟩ = some (.int .i64 y.e) := (q _).trans (E0 4 (by omega))
  have d5 : World.cell? W ⟨ob, oo + A * 6 + 5, none⟩ = some (.int .i64 y.f) := (q _).trans (E0 5 (by omega))
  have nb1 : bx ≠ W.heap.size := by omega
  have nb2 : ob ≠ W.heap.size := by omega
  have nb3 : W.heap.size ≠ bx := by omega
  have nb4 : W.heap.size ≠ ob := by omega
  clear q cx
  go_cut [8] (fun v wx => v = .int .i64 0 ∧ Below w.heap.size w wx ∧ Blk wx bx 63 #[.int .i64 id, .int .i64 (A : Int), .int .i64 tm, .int .i64 gross, .int .i64 tare, .int .i64 rep])
  case first =>
    go_region_held3 (fun w' => w'.cell? ⟨bx, 1, none⟩ = some (.int .i64 (A : Int)) ∧ w'.cell? ⟨bx, 2, none⟩ = some (.int .i64 tm) ∧ w'.cell? ⟨bx, 4, none⟩ = some (.int .i64 tare) ∧ w'.cell? ⟨ob, oo + A * 6, none⟩ = some (.int .i64 y.a) ∧ w'.cell? ⟨ob, oo + A * 6 + 1, none⟩ = some (.int .i64 y.b) ∧ w'.cell? ⟨ob, oo + A * 6 + 2, none⟩ = some (.int .i64 y.c) ∧ w'.cell? ⟨ob, oo + A * 6 + 3, none⟩ = some (.int .i64 y.d) ∧ w'.cell? ⟨ob, oo + A * 6 + 4, none⟩ = some (.int .i64 y.e) ∧ w'.cell? ⟨ob, oo + A * 6 + 5, none⟩ = some (.int .i64 y.f)) (go_keep) ((first
      | (go_at_call 60; refine (CT.out _).mono ?_; rintro e w5 ⟨rfl, hb5⟩; have hbw : Below W.heap.size W w5 := (((Below.refl W.heap.size W).alloc (Nat.le_refl _) (.cells #[.int .i64 0, .int .i64 0] 32)).drew).trans (hb5.mono (Nat.le_of_lt (lt_alloc_drew _ _))); have BN : Blk w5 W.heap.size 32 #[.int .i64 0, .int .i64 0] := ((Blk.new W 32 #[.int .i64 0, .int .i64 0]).drew).step hb5; have tc := BN.cell; have tf := BN.free; have tl := BN.lt; have k0 := (hbw.cell (p := ⟨bx, 1, none⟩) lx).trans c1; have k2 := (hbw.cell (p := ⟨bx, 2, none⟩) lx).trans c2; have k4 := (hbw.cell (p := ⟨bx, _, none⟩) lx).trans c3; have q := fun j => hbw.cell (p := ⟨ob, j, none⟩) lsb; have f0 := (q _).trans d0; have f1 := (q _).trans d1; have f2 := (q _).trans d2; have f3 := (q _).trans d3; have f4 := (q _).trans d4; have f5 := (q _).trans d5; clear q)
      | (go_at_call 60; refine (CT.out _).mono ?_; rintro e w5 ⟨rfl, hb5⟩; have hbw : Below W.heap.size W w5 := (Below.refl W.heap.size W).drew.trans (hb5.mono (Nat.le_refl _)); have BN := True.intro; have tc := True.intro; have tf := tc; have tl := tc; have k0 := (hbw.cell (p := ⟨bx, 1, none⟩) lx).trans c1; have k2 := (hbw.cell (p := ⟨bx, 2, none⟩) lx).trans c2; have k4 := (hbw.cell (p := ⟨bx, _, none⟩) lx).trans c3; have q := fun j => hbw.cell (p := ⟨ob, j, none⟩) lsb; have f0 := (q _).trans d0; have f1 := (q _).trans d1; have f2 := (q _).trans d2; have f3 := (q _).trans d3; have f4 := (q _).trans d4; have f5 := (q _).trans d5; clear q)))
    all_goals (
      have hz5 := hbw.size
      have hb7 := hbx.trans (hbw.mono hbx.size)
      have P4 := BX.step hbw
      clear k0 k2 k4 f0 f1 f2 f3 f4 f5 c1 c2 c3 d0 d1 d2 d3 d4 d5 tc tf tl
      go_wp2_with fail
      go_meet
      refine ⟨rfl, by repeat (first | (with_reducible exact Below.refl _ _) | (with_reducible assumption) | (with_reducible refine Below.drew ?_) | ((with_reducible refine Below.alloc ?_ ?_ _); rotate_left; (first | (with_reducible exact Nat.zero_le _) | (with_reducible exact Nat.le_refl _) | omega | (dsimp only; omega) | (simp only [World.size_alloc, World.size_setCell, World.size_drew]; omega))) | ((with_reducible refine Below.setCell ?_ ?_ _); rotate_left; (first | (with_reducible exact Nat.zero_le _) | (with_reducible exact Nat.le_refl _) | omega | (dsimp only; omega) | (simp only [World.size_alloc, World.size_setCell, World.size_drew]; omega)))), ?_⟩
      first | exact P4 | exact (P4.far (by assumption) _).far (by assumption) _ | exact P4.alloc _)
  clear c1 c2 c3 d0 d1 d2 d3 d4 d5 BX nb1 nb2 nb3 nb4 lx lsb hbx
  obtain ⟨rfl, hbx, BX⟩ := hcut
  generalize wc = W at *
  have v3 := BX.cell
  have c3 := v3 3
  have c4 := v3 4
  clear v3
  go_wp2_with fail
  all_goals (
    go_ret
    have hR := HR.out
    first
    | (rw [if_pos (by assumption)] at hR; subst hR; exact ⟨rfl, hbx⟩)
    | (rw [if_neg (by assumption)] at hR; subst hR; exact ⟨rfl, hbx⟩)
    | (rw [if_neg (Int.not_lt.2 (by assumption))] at hR; subst hR; exact ⟨rfl, hbx⟩))

def encT (x : Tk) : List Value := [.int .i64 x.id, .int .i64 x.sc, .int .i64 x.tm, .int .i64 x.gross, .int .i64 x.tare, .int .i64 x.rep]
def OneRel (w : World) (i : Value) (wr : World) : Prop := (i = .int .i64 0 ∨ i = .int .i64 1) ∧ Below w.heap.size w wr
def ZeroRel (w : World) (i : Value) (wr : World) : Prop := i = .int .i64 0 ∧ wr = w
set_option maxRecDepth 100000 in
set_option maxHeartbeats 4000000 in
theorem rplace_zero (v : Value) (y : Int) (w : World) : Calls Try.prog 61 #[v, .int .i64 0, .int .i64 y] w fun e w' => e = .returned (.int .i64 (-1)) ∧ w' = w := by
  go_enter Try.func61, Try.ntmps61
  go_wp2_with fail
  go_loopw [7] (fun i wr => ZeroRel w i wr) (fun _ _ => 0)
  case atStart => exact ⟨rfl, rfl⟩
  case round =>
    obtain ⟨rfl, rfl⟩ := hrel
    go_wp2_with fail
    go_ret
    exact ⟨rfl, rfl⟩
set_option maxRecDepth 100000 in
set_option maxHeartbeats 4000000 in
theorem rlist_any {w : World} {v : Value} {x : Tk} (hl : RowIn w v 6 encT [x]) (h1 : 1 ≤ x.id) (h2 : x.id ≤ 1000000) (hr : x.rep = 0) : Calls Try.prog 47 #[v] w fun e w' => e = .returned (.int .i64 0) ∧ Below w.heap.size w w' := by
  obtain ⟨sa, cs, rfl, s1, s2, _, hs5⟩ := hl.at_
  obtain ⟨ob, oo, rfl, hoz, hoc⟩ := hs5 (by simp)
  have ec := hoc 0 x (by rfl)
  have e0 : w.cell? ⟨ob, oo, none⟩ = some (.int .i64 x.id) := by simpa [encT] using ec 0 (by omega)
  have e5 : w.cell? ⟨ob, oo + 5, none⟩ = some (.int .i64 0) := by have := ec 5 (by omega); simpa [encT, hr] using this
  clear hs5 hl hoc ec hr
  generalize x.id = id at *
  unfold maxLen at s2
  simp only [List.length_cons, List.length_nil, Nat.zero_add] at s1 ⊢
  have hb : Below w.heap.size w w := Below.refl _ _
  go_enter Try.func47, Try.ntmps47
  go_wp2_with fail
  go_loopw [3] (fun i wr => OneRel w i wr) (fun i _ => (1 - intOf i).toNat)
  case atStart => exact ⟨.inl rfl, hb⟩
  clear hb
  case round =>
    obtain ⟨h01, hb⟩ := hrel
    have q : ∀ j, wr.cell? ⟨ob, j, none⟩ = w.cell? ⟨ob, j, none⟩ := fun j => hb.cell (p := ⟨ob, j, none⟩) hoz
    have c0 := (q _).trans e0
    have c5 := (q _).trans e5
    clear q
    rcases h01 with rfl | rfl
    · go_wp2_with fail
      go_roundw
      case rel => exact ⟨.inr rfl, hb⟩
      case measure => simp [intOf]
    go_wp2_with fail
    go_loopw [4] (fun i wr => OneRel w i wr) (fun i _ => (1 - intOf i).toNat)
    case atStart => exact ⟨.inl rfl, hb⟩
    clear hb
    case round =>
      obtain ⟨h01, hb⟩ := hrel
      have q : ∀ j, wr.cell? ⟨ob, j, none⟩ = w.cell? ⟨ob, j, none⟩ := fun j => hb.cell (p := ⟨ob, j, none⟩) hoz
      have c0 := (q _).trans e0
      have c5 := (q _).trans e5
      clear q
      rcases h01 with rfl | rfl
      · go_wp2_with fail
        refine (rplace_zero _ _ _).mono ?_
        rintro e w5 ⟨rfl, rfl⟩
        go_wp2_with fail
        go_roundw
        case rel => exact ⟨.inr rfl, hb⟩
        case measure => simp [intOf]
      go_wp2_with fail
      go_loopw [5] (fun i wr => OneRel w i wr) (fun i _ => (1 - intOf i).toNat)
      case atStart => exact ⟨.inl rfl, hb⟩
      clear hb
      case round =>
        obtain ⟨h01, hb⟩ := hrel
        have q : ∀ j, wr.cell? ⟨ob, j, none⟩ = w.cell? ⟨ob, j, none⟩ := fun j => hb.cell (p := ⟨ob, j, none⟩) hoz
        have c0 := (q _).trans e0
        have c5 := (q _).trans e5
        clear q
        rcases h01 with rfl | rfl
        · go_wp2_with fail
          go_roundw
          case rel => exact ⟨.inr rfl, hb⟩
          case measure => simp [intOf]
        go_wp2_with fail
        go_loopw [6] (fun i wr => OneRel w i wr) (fun i _ => (1 - intOf i).toNat)
        case atStart => exact ⟨.inl rfl, hb⟩
        clear hb
        case round =>
          obtain ⟨h01, hb⟩ := hrel
          have q : ∀ j, wr.cell? ⟨ob, j, none⟩ = w.cell? ⟨ob, j, none⟩ := fun j => hb.cell (p := ⟨ob, j, none⟩) hoz
          have c0 := (q _).trans e0
          have c5 := (q _).trans e5
          clear q
          rcases h01 with rfl | rfl
          · go_wp2_with fail
            go_loopw [7] (fun i wr2 => ZeroRel wr i wr2) (fun _ _ => 0)
            case atStart => exact ⟨rfl, rfl⟩
            case round =>
              obtain ⟨rfl, rfl⟩ := hrel
              go_wp2_with fail
              go_roundw
              case rel => exact ⟨.inr rfl, hb⟩
              case measure => simp [intOf]
          go_wp2_with fail
          go_ret
          exact ⟨rfl, hb⟩
set_option maxRecDepth 100000 in
set_option maxHeartbeats 4000000 in
theorem rtcheck_any {w : World} {vs v : Value} {S : List Sc} {x : Tk} (hs : RowIn w vs 6 encS S) (hn : S.length ≤ 16) (hok : ∀ s ∈ S, chkS s = 0) (hl : RowIn w v 6 encT [x]) (hx : TkOk S x) :
    Calls Try.prog 18 #[vs, v] w fun e w' => e = .returned (.int .i64 (if x.gross < x.tare then 9 else 0)) ∧ Below w.heap.size w w' := by
  have h1 := rscales_any hs hn hok
  have h2 := fun (w1 : World) (h : Below w.heap.size w w1) => rfault_any (hs.step h) hx
  have h3 := fun (w1 : World) (h : Below w.heap.size w w1) => rlist_any (hl.step h) hx.id1 hx.id2 hx.rp
  obtain ⟨sa, cs, rfl, s1, s2, _, hs5⟩ := hl.at_
  obtain ⟨ob, oo, rfl, hoz, hoc⟩ := hs5 (by simp)
  have ec := hoc 0 x (by rfl)
  unfold maxLen at s2
  clear hs5 hl hoc hs hok hx hn
  obtain ⟨id, sc, tm, gross, tare, rep⟩ := x
  dsimp only at *
  simp only [List.length_cons, List.length_nil, Nat.zero_add] at s1 h3 ⊢
  have e0 : w.cell? ⟨ob, oo, none⟩ = some (.int .i64 id) := by simpa [encT] using ec 0 (by omega)
  have e1 : w.cell? ⟨ob, oo + 1, none⟩ = some (.int .i64 sc) := by simpa [encT] using ec 1 (by omega)
  have e2 : w.cell? ⟨ob, oo + 2, none⟩ = some (.int .i64 tm) := by simpa [encT] using ec 2 (by omega)
  have e3 : w.cell? ⟨ob, oo + 3, none⟩ = some (.int .i64 gross) := by simpa [encT] using ec 3 (by omega)
  have e4 : w.cell? ⟨ob, oo + 4, none⟩ = some (.int .i64 tare) := by simpa [encT] using ec 4 (by omega)
  have e5 : w.cell? ⟨ob, oo + 5, none⟩ = some (.int .i64 rep) := by simpa [encT] using ec 5 (by omega)
  have H2 := Lib.hid h2
  have H3 := Lib.hid h3
  clear ec h2 h3
  obtain ⟨R, hR⟩ : ∃ R : Int, (if gross < tare then 9 else 0) = R := ⟨_, rfl⟩
  rw [hR] at H2 ⊢
  have hR2 : R = 0 ∨ ¬ R = 0 := by omega
  clear hR
  go_enter Try.func18, Try.ntmps18
  go_wp2_with fail
  refine h1.mono ?_
  rintro e w1 ⟨rfl, hb⟩
  clear h1
  go_wp2_with fail
  go_loopw [6] (fun i wr => (i = .int .i64 0 ∨ i = .int .i64 1 ∧ R = 0) ∧ Below w.heap.size w wr) (fun i _ => (1 - intOf i).toNat)
  case atStart => exact ⟨.inl rfl, hb⟩
  clear hb
  case round =>
    obtain ⟨h01, hb⟩ := hrel
    rcases h01 with rfl | ⟨rfl, rfl⟩
    · have q : ∀ j, wr.cell? ⟨ob, j, none⟩ = w.cell? ⟨ob, j, none⟩ := fun j => hb.cell (p := ⟨ob, j, none⟩) hoz
      have c0 := (q _).trans e0
      have c1 := (q _).trans e1
      have c2 := (q _).trans e2
      have c3 := (q _).trans e3
      have c4 := (q _).trans e4
      have c5 := (q _).trans e5
      clear q
      go_wp2_with fail
      refine (H2.out _ hb).mono ?_
      rintro e w5 ⟨rfl, hb5⟩
      rcases hR2 with rfl | hR2
      · go_wp2_with fail
        go_roundw
        case rel => exact ⟨.inr ⟨rfl, by trivial⟩, hb.trans (hb5.mono hb.size)⟩
        case measure => simp [intOf]
      · go_wp2_with fail
        go_ret
        exact ⟨rfl, hb.trans (hb5.mono hb.size)⟩
    · go_wp2_with fail
      refine (H3.out _ hb).mono ?_
      rintro e w5 ⟨rfl, hb5⟩
      go_wp2_with fail
      go_ret
      exact ⟨rfl, hb.trans (hb5.mono hb.size)⟩

end Go.Proofs.Ytapfihlfnaebhaa
