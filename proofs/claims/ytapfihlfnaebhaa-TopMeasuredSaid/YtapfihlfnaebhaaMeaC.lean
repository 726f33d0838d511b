/- Contracts: the places of tickets numbered from one on. -/
import Derived.Test.YtapfihlfnaebhaaMeaB
import Derived.Test.YtapfihlfnaebhaaMeaL
namespace Go.Proofs.Ytapfihlfnaebhaa
set_option linter.unusedVariables false
set_option linter.unusedSimpArgs false
open Go.RowKit Go.ChangeMaps

/-- Tickets numbered from one on, none of which replaces another. -/
structure Num (T : List Tk) : Prop where
  id : ∀ k, k < T.length → (T.getD k tk0).id = k + 1
  rp : ∀ k, k < T.length → (T.getD k tk0).rep = 0
def pf (n : Nat) (y : Int) : Option Int := if 1 ≤ y ∧ y ≤ n then some (y - 1) else none
theorem pf_zero : pf 0 = fun _ => none := by funext y; unfold pf; rw [if_neg (by omega)]
theorem pf_at (k : Nat) : pf k ((k : Int) + 1) = none := by unfold pf; rw [if_neg (by omega)]
theorem pf_succ (k : Nat) : (fun y => if y = (k : Int) + 1 then some (k : Int) else pf k y) = pf (k + 1) := by
  funext y
  unfold pf
  by_cases h : y = (k : Int) + 1
  · rw [if_pos h, if_pos (by omega)]; congr 1; omega
  · rw [if_neg h]
    by_cases h2 : 1 ≤ y ∧ y ≤ (k : Int)
    · rw [if_pos h2, if_pos (by omega)]
    · rw [if_neg h2, if_neg (by omega)]
theorem wfI {z : Int} (h1 : -9223372036854775808 ≤ z) (h2 : z ≤ 9223372036854775807) : (Lit.int .i64 z).wf = true := by
  simp only [Lit.wf, Bool.and_eq_true, decide_eq_true_eq]
  exact ⟨h1, h2⟩
theorem zeroIM (w : World) : (zeroValue 3).run Try.prog w = .ok (.int .i64 0) w := by kernel_rfl
def PlRel (w : World) (n : Nat) (f s : Nat → Nat) (i : Value) (wr : World) : Prop :=
  ∃ k : Nat, k ≤ n ∧ i = .int .i64 k ∧ Below w.heap.size w wr ∧ MapIs wr Try.prog 3 eInt w.heap.size (s k) (pf (f k)) (f k)
set_option maxRecDepth 100000 in
set_option maxHeartbeats 4000000 in
theorem places_any {w : World} {v : Value} {T : List Tk} (hl : RowIn w v 6 encT T) (hn : T.length ≤ 512) (hT : Num T) :
    Calls Try.prog 62 #[v] w fun e w' => ∃ b, e = .returned (.tuple #[.map (some b), .int .i64 0]) ∧ w.heap.size ≤ b ∧ MapIs w' Try.prog 3 eInt b T.length (pf T.length) T.length ∧ Below w.heap.size w w' := by
  obtain ⟨sa, cs, rfl, s1, s2, _, hs5⟩ := hl.at_
  unfold maxLen at s2
  have HP := Lib.hid hs5
  have HN := Lib.hid hT
  have hn' : ¬ (T.length : Int) > 512 := by omega
  clear hs5 hl hT
  have hmm := @run_makeMap Try.prog
  go_enter Try.func62, Try.ntmps62
  go_wp2_with fail
  clear hmm
  go_loopw [23] (fun i wr => PlRel w T.length (fun _ => 0) (fun _ => 0) i wr) (fun i _ => (T.length - intOf i).toNat)
  case atStart => exact ⟨0, Nat.zero_le _, rfl, (Below.refl _ _).alloc (Nat.le_refl _) _, by rw [pf_zero]; exact MapIs.made _ _ _ _⟩
  case round =>
    obtain ⟨k, hk, rfl, hbr, hmp⟩ := hrel
    have hwr := hbr.size
    by_cases hkl : k < T.length
    · have hki : (k : Int) < T.length := by omega
      have hk0 : (0 : Int) ≤ k := by omega
      have hx := getD_of (d := tk0) hkl
      obtain ⟨ob, oo, rfl, hoz, hoc⟩ := HP.out (by rintro rfl; simp at hkl)
      have ec := hoc k _ hx
      have q : ∀ j, wr.cell? ⟨ob, j, none⟩ = w.cell? ⟨ob, j, none⟩ := fun j => hbr.cell (p := ⟨ob, j, none⟩) hoz
      have hid := HN.out.id _ hkl
      have hrp := HN.out.rp _ hkl
      clear hx hoc
      generalize T.getD k tk0 = x at *
      obtain ⟨id, sc, tm, gross, tare, rep⟩ := x
      dsimp only at hid hrp
      subst hid hrp
      have e0 : World.cell? wr ⟨ob, oo + k * 6, none⟩ = some (.int .i64 ((k : Int) + 1)) := (q _).trans (ec 0 (by omega))
      have e1 : World.cell? wr ⟨ob, oo + k * 6 + 1, none⟩ = some (.int .i64 sc) := (q _).trans (ec 1 (by omega))
      have e2 : World.cell? wr ⟨ob, oo + k * 6 + 2, none⟩ = some (.int .i64 tm) := (q _).trans (ec 2 (by omega))
      have e3 : World.cell? wr ⟨ob, oo + k * 6 + 3, none⟩ = some (.int .i64 gross) := (q _).trans (ec 3 (by omega))
      have e4 : World.cell? wr ⟨ob, oo + k * 6 + 4, none⟩ = some (.int .i64 tare) := (q _).trans (ec 4 (by omega))
      have e5 : World.cell? wr ⟨ob, oo + k * 6 + 5, none⟩ = some (.int .i64 0) := (q _).trans (ec 5 (by omega))
      clear ec q
      have hbx : Below wr.heap.size wr (wr.alloc (.cells #[.int .i64 ((k : Int) + 1), .int .i64 sc, .int .i64 tm, .int .i64 gross, .int .i64 tare, .int .i64 0] 63)) := by repeat (first | (with_reducible exact Below.refl _ _) | (with_reducible assumption) | (with_reducible refine Below.drew ?_) | ((with_reducible refine Below.alloc ?_ ?_ _); rotate_left; (first | (with_reducible exact Nat.zero_le _) | (with_reducible exact Nat.le_refl _) | omega | (dsimp only; omega) | (simp only [World.size_alloc, World.size_setCell, World.size_drew]; omega))) | ((with_reducible refine Below.setCell ?_ ?_ _); rotate_left; (first | (with_reducible exact Nat.zero_le _) | (with_reducible exact Nat.le_refl _) | omega | (dsimp only; omega) | (simp only [World.size_alloc, World.size_setCell, World.size_drew]; omega))))
      have hbz := hbr.trans (hbx.mono hwr)
      have hmz := hmp.step hbx
      have g1 : ¬ (k : Int) + 1 < 1 := by omega
      have g2 : ¬ (k : Int) + 1 > 1000000 := by omega
      clear hmp hbr
      go_wp2_with fail
      go_roundw
      case rel => exact ⟨k + 1, hkl, by simp, hbz, hmz⟩
      case measure => simp [intOf]; omega
    · obtain rfl : k = T.length := by omega
      clear hkl hk
      go_wp2_with fail
      try dsimp only at hmp
      go_loopw [38] (fun i wr => PlRel w T.length (fun k => k) (fun k => k) i wr) (fun i _ => (T.length - intOf i).toNat)
      case atStart => exact ⟨0, Nat.zero_le _, rfl, hbr, hmp⟩
      clear hmp hbr hwr
      case round =>
        obtain ⟨k, hk, rfl, hbr, hmp⟩ := hrel
        try dsimp only at hmp
        have hwr := hbr.size
        by_cases hkl : k < T.length
        · have hki : (k : Int) < T.length := by omega
          have hk0 : (0 : Int) ≤ k := by omega
          have hx := getD_of (d := tk0) hkl
          obtain ⟨ob, oo, rfl, hoz, hoc⟩ := HP.out (by rintro rfl; simp at hkl)
          have ec := hoc k _ hx
          have q : ∀ j, wr.cell? ⟨ob, j, none⟩ = w.cell? ⟨ob, j, none⟩ := fun j => hbr.cell (p := ⟨ob, j, none⟩) hoz
          have hid := HN.out.id _ hkl
          have hrp := HN.out.rp _ hkl
          clear hx hoc
          generalize T.getD k tk0 = x at *
          obtain ⟨id, sc, tm, gross, tare, rep⟩ := x
          dsimp only at hid hrp
          subst hid hrp
          have e0 : World.cell? wr ⟨ob, oo + k * 6, none⟩ = some (.int .i64 ((k : Int) + 1)) := (q _).trans (ec 0 (by omega))
          have e1 : World.cell? wr ⟨ob, oo + k * 6 + 1, none⟩ = some (.int .i64 sc) := (q _).trans (ec 1 (by omega))
          have e2 : World.cell? wr ⟨ob, oo + k * 6 + 2, none⟩ = some (.int .i64 tm) := (q _).trans (ec 2 (by omega))
          have e3 : World.cell? wr ⟨ob, oo + k * 6 + 3, none⟩ = some (.int .i64 gross) := (q _).trans (ec 3 (by omega))
          have e4 : World.cell? wr ⟨ob, oo + k * 6 + 4, none⟩ = some (.int .i64 tare) := (q _).trans (ec 4 (by omega))
          have e5 : World.cell? wr ⟨ob, oo + k * 6 + 5, none⟩ = some (.int .i64 0) := (q _).trans (ec 5 (by omega))
          clear ec q
          have hbx : Below wr.heap.size wr (wr.alloc (.cells #[.int .i64 ((k : Int) + 1), .int .i64 sc, .int .i64 tm, .int .i64 gross, .int .i64 tare, .int .i64 0] 63)) := by repeat (first | (with_reducible exact Below.refl _ _) | (with_reducible assumption) | (with_reducible refine Below.drew ?_) | ((with_reducible refine Below.alloc ?_ ?_ _); rotate_left; (first | (with_reducible exact Nat.zero_le _) | (with_reducible exact Nat.le_refl _) | omega | (dsimp only; omega) | (simp only [World.size_alloc, World.size_setCell, World.size_drew]; omega))) | ((with_reducible refine Below.setCell ?_ ?_ _); rotate_left; (first | (with_reducible exact Nat.zero_le _) | (with_reducible exact Nat.le_refl _) | omega | (dsimp only; omega) | (simp only [World.size_alloc, World.size_setCell, World.size_drew]; omega))))
          have hbz := hbr.trans (hbx.mono hwr)
          have hmz := hmp.step hbx
          have hkm : k < maxLen := by unfold maxLen; omega
          have HF := Lib.hid (pf_at k)
          have HSU := Lib.hid (pf_succ k)
          have hwi : (Lit.int .i64 ((k : Int) + 1)).wf = true := wfI (by omega) (by omega)
          clear hmp hbr
          go_wp2_with (first | (at_lookup; refine wpList_lookup_map_ok rfl _ _ 101 rfl 3 Try.underlying3 Try.underlying101 0 (zeroIM _) rfl hmz _ rfl hwi ?_; rw [HF.out]; show wpList _ _ _ _ (Act.put _ _ (.tuple #[.int .i64 0, .bool false])) _) | (at_mapUpdate; refine wpList_update_map rfl _ _ _ 101 rfl 3 Try.underlying3 Try.underlying101 rfl hmz hkm _ (k : Int) rfl rfl hwi ?_; intro w6 hm6 hg6))
          have hb6 := Below.grown hbz hg6 hbz.size (fun j hj => by cases hj; exact Nat.le_refl _)
          rw [HSU.out, HF.out] at hm6
          simp only [Option.isSome_none, Bool.false_eq_true, if_false] at hm6
          clear hg6
          go_roundw
          case rel => exact ⟨k + 1, hkl, by simp, hb6, hm6⟩
          case measure => simp [intOf]; omega
        · obtain rfl : k = T.length := by omega
          clear hkl hk
          have hmm := @run_makeMap Try.prog
          go_wp2_with fail
          clear hmm
          have hbm : Below w.heap.size w (wr.alloc (.map #[] 0)) := by repeat (first | (with_reducible exact Below.refl _ _) | (with_reducible assumption) | (with_reducible refine Below.drew ?_) | ((with_reducible refine Below.alloc ?_ ?_ _); rotate_left; (first | (with_reducible exact Nat.zero_le _) | (with_reducible exact Nat.le_refl _) | omega | (dsimp only; omega) | (simp only [World.size_alloc, World.size_setCell, World.size_drew]; omega))) | ((with_reducible refine Below.setCell ?_ ?_ _); rotate_left; (first | (with_reducible exact Nat.zero_le _) | (with_reducible exact Nat.le_refl _) | omega | (dsimp only; omega) | (simp only [World.size_alloc, World.size_setCell, World.size_drew]; omega))))
          have hmm := hmp.alloc (.map #[] 0)
          clear hmp hbr hwr
          go_loopw [12, 59] (fun u i wr => u = .bool false ∧ PlRel w T.length (fun _ => T.length) (fun _ => T.length) i wr) (fun _ i _ => (T.length - intOf i).toNat)
          case atStart => exact ⟨rfl, 0, Nat.zero_le _, rfl, hbm, hmm⟩
          clear hmm hbm
          case round =>
            obtain ⟨rfl, k, hk, rfl, hbr, hmp⟩ := hrel
            have hwr := hbr.size
            by_cases hkl : k < T.length
            · have hki : (k : Int) < T.length := by omega
              have hk0 : (0 : Int) ≤ k := by omega
              have hx := getD_of (d := tk0) hkl
              obtain ⟨ob, oo, rfl, hoz, hoc⟩ := HP.out (by rintro rfl; simp at hkl)
              have ec := hoc k _ hx
              have q : ∀ j, wr.cell? ⟨ob, j, none⟩ = w.cell? ⟨ob, j, none⟩ := fun j => hbr.cell (p := ⟨ob, j, none⟩) hoz
              have hid := HN.out.id _ hkl
              have hrp := HN.out.rp _ hkl
              clear hx hoc
              generalize T.getD k tk0 = x at *
              obtain ⟨id, sc, tm, gross, tare, rep⟩ := x
              dsimp only at hid hrp
              subst hid hrp
              have e0 : World.cell? wr ⟨ob, oo + k * 6, none⟩ = some (.int .i64 ((k : Int) + 1)) := (q _).trans (ec 0 (by omega))
              have e1 : World.cell? wr ⟨ob, oo + k * 6 + 1, none⟩ = some (.int .i64 sc) := (q _).trans (ec 1 (by omega))
              have e2 : World.cell? wr ⟨ob, oo + k * 6 + 2, none⟩ = some (.int .i64 tm) := (q _).trans (ec 2 (by omega))
              have e3 : World.cell? wr ⟨ob, oo + k * 6 + 3, none⟩ = some (.int .i64 gross) := (q _).trans (ec 3 (by omega))
              have e4 : World.cell? wr ⟨ob, oo + k * 6 + 4, none⟩ = some (.int .i64 tare) := (q _).trans (ec 4 (by omega))
              have e5 : World.cell? wr ⟨ob, oo + k * 6 + 5, none⟩ = some (.int .i64 0) := (q _).trans (ec 5 (by omega))
              clear ec q
              have hbx : Below wr.heap.size wr (wr.alloc (.cells #[.int .i64 ((k : Int) + 1), .int .i64 sc, .int .i64 tm, .int .i64 gross, .int .i64 tare, .int .i64 0] 63)) := by repeat (first | (with_reducible exact Below.refl _ _) | (with_reducible assumption) | (with_reducible refine Below.drew ?_) | ((with_reducible refine Below.alloc ?_ ?_ _); rotate_left; (first | (with_reducible exact Nat.zero_le _) | (with_reducible exact Nat.le_refl _) | omega | (dsimp only; omega) | (simp only [World.size_alloc, World.size_setCell, World.size_drew]; omega))) | ((with_reducible refine Below.setCell ?_ ?_ _); rotate_left; (first | (with_reducible exact Nat.zero_le _) | (with_reducible exact Nat.le_refl _) | omega | (dsimp only; omega) | (simp only [World.size_alloc, World.size_setCell, World.size_drew]; omega))))
              have hbz := hbr.trans (hbx.mono hwr)
              have hmz := hmp.step hbx
              clear hmp hbr
              go_wp2_with fail
              go_roundw
              case rel => exact ⟨rfl, k + 1, hkl, by simp, hbz, hmz⟩
              case measure => simp [intOf]; omega
            · obtain rfl : k = T.length := by omega
              clear hkl hk
              go_wp2_with fail
              refine bodyPost_ret (v := .tuple #[.map (some w.heap.size), .int .i64 0]) (by simp only [results, Try.results62]; go_simp; first | done | rfl) rfl ?_
              exact ⟨_, rfl, Nat.le_refl _, hmp, hbr⟩

end Go.Proofs.Ytapfihlfnaebhaa
