/- Contract: solve. -/
import Derived.Test.YthaoclocachbaaaBalF
import Derived.Test.YthaoclocachbaaaBalG
import Derived.Test.YthaoclocachbaaaSolP
import Derived.Deep.MidRow
import Derived.Deep.WholeRow
import Derived.Deep.OwnRows
namespace Go.Proofs.Ythaoclocachbaaa
set_option linter.unusedVariables false
set_option linter.unusedSimpArgs false
open Go.RowKit

def SolOut (w : World) (n : Nat) (E : List Ed) (e : Ending) (w' : World) : Prop :=
  Below w.heap.size w w' ∧ ((e = .returned (.tuple #[.slice none 0 0, .bool false]) ∧ ∃ T : Nat → Bool, roomOf T E < 0) ∨
    ∃ v xs, e = .returned (.tuple #[v, .bool true]) ∧ RowIn w' v 1 (fun x : Int => [.int .i64 x]) xs ∧ Circ n E xs)
def CapRel (w : World) (n : Nat) (E : List Ed) (ne i : Value) (wr : World) : Prop := ∃ k : Nat, k ≤ E.length ∧ i = .int .i64 k ∧ ne = .int .i64 (needOf (E.take k)) ∧ Below w.heap.size w wr ∧ Blk wr w.heap.size 68 (ints (netL (n + 3 : Nat) (capOf (n + 1) (n + 2) (E.take k))))
def PushRel (w : World) (ab n : Nat) (E : List Ed) (m : Nat) (ne : Value) (wr : World) : Prop := ∃ (R : Nat → Nat → Int) (F : Int), ne = .int .i64 (needOf E - F) ∧ 0 ≤ F ∧ F ≤ needOf E ∧ (needOf E - F).toNat = m ∧ Below w.heap.size w wr ∧
  Blk wr w.heap.size 68 (ints (netL (n + 3 : Nat) R)) ∧ ResOk n (capOf (n + 1) (n + 2) E) R F ∧ Blk wr ab 66 (ints (arrL (capOf (n + 1) (n + 2) E)))
def GivRel (w : World) (ab ob n : Nat) (E : List Ed) (R : Nat → Nat → Int) (i : Value) (wr : World) : Prop := ∃ (k : Nat) (pre : List Int) (D : Nat → Nat → Int), k ≤ E.length ∧ i = .int .i64 k ∧ GiveAt (fun u v => capOf (n + 1) (n + 2) E u v - R u v) E k pre D ∧ Below w.heap.size w wr ∧
  Blk wr w.heap.size 68 (ints (netL (n + 3 : Nat) R)) ∧ Blk wr ab 66 (ints (arrL fun u v => capOf (n + 1) (n + 2) E u v - D u v)) ∧ Blk wr ob 3 (ints (pre ++ List.replicate (E.length - k) 0))
theorem next_get {pre : List Int} {k N : Nat} (h : pre.length = k) (hk : k < N) : (pre ++ List.replicate (N - k) 0)[k]? = some 0 := by
  rw [List.getElem?_append_right (by omega), List.getElem?_replicate, if_pos (by omega)]
theorem next_set {pre : List Int} {k N : Nat} (h : pre.length = k) (hk : k < N) (x : Int) : (pre ++ List.replicate (N - k) 0).set k x = (pre ++ [x]) ++ List.replicate (N - (k + 1)) 0 := by
  have e : N - k = (N - (k + 1)) + 1 := by omega
  rw [e, List.replicate_succ, List.set_append_right _ _ (by omega), h, Nat.sub_self, List.set_cons_zero, List.append_assoc]; rfl
theorem RowIn.of_ints {w : World} {g : Nat} {t : TypeId} {l : List Int} (h : Blk w g t (ints l)) (hl : l.length ≤ maxLen) : RowIn w (.slice (some ⟨g, 0, none⟩) l.length l.length) 1 (fun x : Int => [.int .i64 x]) l := by
  refine ⟨some ⟨g, 0, none⟩, l.length, rfl, Nat.le_refl _, ?_, by simp, fun _ => ⟨g, 0, rfl, h.lt, fun k x hx j hj => ?_⟩⟩
  · exact hl
  · obtain rfl : j = 0 := by omega
    rw [Nat.zero_add, Nat.mul_one, Nat.add_zero]
    exact h.geti hx
theorem take_snoc {α : Type} {l : List α} {k : Nat} {x : α} (h : l[k]? = some x) : l.take (k + 1) = l.take k ++ [x] := by rw [List.take_add_one, h]; rfl

theorem zero_net (w : World) : (zeroValue 68).run Try.prog w = .ok (.agg (ints (netL 0 fun _ _ => 0))) w := by kernel_rfl
theorem wpList_build_net {ops : Array Oper} {rest : List Oper} {o : Oper} {a : Act} {w : World} {Q : Exit → Act → World → Prop} (hg : o.guard = none) (x : Operand)
    (hop : o.op = .build 68 #[(0, x)]) (k : Int) (hx : a.eval x = .int .i64 k) (h : wpList Try.prog ops Q rest (a.put o.dst (.agg (ints (netL k fun _ _ => 0)))) w) : wpList Try.prog ops Q (o :: rest) a w := by
  refine wpList_plain hg fun K hK' => ?_
  have hz := zero_net w
  have hne : ints (netL 0 fun _ _ => 0) ≠ #[] := fun e => by
    have := congrArg Array.size e
    simp [ints_size, netL] at this
  have hset : (ints (netL 0 fun _ _ => 0)).setIfInBounds 0 (.int .i64 k) = ints (netL k fun _ _ => 0) := by rw [ints_set]; rfl
  generalize ints (netL 0 fun _ _ => 0) = Z at *
  generalize ints (netL k fun _ _ => 0) = Z' at *
  unfold Oper.wp
  simp [execOp, hop, hx, hz, Result.andThen]
  go_simp
  exact hK' _ _ h

theorem zero_arr (w : World) : (zeroValue 66).run Try.prog w = .ok (.agg (ints (arrL fun _ _ => 0))) w := by kernel_rfl
theorem wpList_alloc_arr {ops : Array Oper} {rest : List Oper} {o : Oper} {a : Act} {w : World} {Q : Exit → Act → World → Prop} (hg : o.guard = none)
    (hop : o.op = .alloc 66) (h : wpList Try.prog ops Q rest (a.put o.dst (.pointer (some ⟨w.heap.size, 0, none⟩))) (w.alloc (.cells (ints (arrL fun _ _ => 0)) 66))) : wpList Try.prog ops Q (o :: rest) a w := by
  refine wpList_plain hg fun K hK' => ?_
  have hz := zero_arr w
  generalize ints (arrL fun _ _ => 0) = Z at *
  unfold Oper.wp
  simp [execOp, hop, hz, Result.andThen]
  go_simp
  exact hK' _ _ h
theorem arr_info : (Try.prog.info? 66).map (·.size) = some 121 := by kernel_rfl
theorem ints_one (l : List Int) : (ints l).all (·.oneCell') = true := all_oneCell_toArray fun v hv => by
  obtain ⟨x, _, rfl⟩ := List.mem_map.1 hv; rfl
theorem wpList_store_arr {ops : Array Oper} {rest : List Oper} {o : Oper} {a : Act} {w : World} {Q : Exit → Act → World → Prop} (hg : o.guard = none) (x y : Operand)
    (hop : o.op = .store 66 x y) (R R' : Nat → Nat → Int) (hx : a.eval x = .pointer (some ⟨w.heap.size, 0, none⟩)) (hy : a.eval y = .agg (ints (arrL R')))
    (h : wpList Try.prog ops Q rest (a.put o.dst undef) (w.alloc (.cells (ints (arrL R')) 66))) : wpList Try.prog ops Q (o :: rest) a (w.alloc (.cells (ints (arrL R)) 66)) := by
  refine wpList_plain hg fun K hK' => ?_
  unfold Oper.wp execOp
  simp only [hop, hx, hy, Sem.run_bind, Sem.run_pure, run_storeAt_new w 66 (ints (arrL R)) (ints (arrL R')) (by rw [arr_info, ints_size, arrL_len]) (by rw [ints_size, ints_size, arrL_len, arrL_len]) (ints_one _), Result.andThen_ok]
  exact hK' _ _ h
theorem wpList_load_arr {ops : Array Oper} {rest : List Oper} {o : Oper} {a : Act} {w : World} {Q : Exit → Act → World → Prop} (hg : o.guard = none) (x : Operand) (hop : o.op = .load 66 x)
    (b : Nat) (hx : a.eval x = .pointer (some ⟨b, 1, none⟩)) (k : Int) (R : Nat → Nat → Int) (hB : Blk w b 68 (ints (netL k R)))
    (h : wpList Try.prog ops Q rest (a.put o.dst (.agg (ints (arrL R)))) w) : wpList Try.prog ops Q (o :: rest) a w := by
  refine wpList_load_mid hg 66 x hop b 1 hx ((arrL R).map (Value.int .i64)) _ (fun j v hj => ?_) Try.underlying66 rfl (by rw [arr_info, List.length_map, arrL_len]) h
  rw [hB.cell]
  simp only [ints, netL]
  rw [List.getElem?_toArray, Nat.add_comm, List.map_cons, List.getElem?_cons_succ]
  exact hj

set_option maxRecDepth 100000 in
set_option maxHeartbeats 8000000 in
theorem solve_any {w : World} {vl : Value} (n : Nat) {E : List Ed} (hn : n ≤ 8) (hl : RowIn w vl 5 encE E) (hE : ∀ e ∈ E, EdB n e) (hlen : E.length ≤ 96) :
    Calls Try.prog 30 #[.int .i64 (n : Int), vl] w (SolOut w n E) := by
  obtain ⟨la, cb, rfl, l1, l2, _, hl5⟩ := hl.at_
  unfold maxLen at l2
  have HL := Lib.hid hl5
  have HE := Lib.hid hE
  clear hl5 hE
  go_enter Try.func30, Try.ntmps30
  have hb0 : Below w.heap.size w (w.alloc (.cells (ints (netL ((n : Int) + 3) fun _ _ => 0)) 68)) := by repeat (first | (with_reducible exact Below.refl _ _) | (with_reducible assumption) | (with_reducible refine Below.drew ?_) | ((with_reducible refine Below.alloc ?_ ?_ _); rotate_left; (first | (with_reducible exact Nat.zero_le _) | (with_reducible exact Nat.le_refl _) | omega | (dsimp only; omega) | (simp only [World.size_alloc, World.size_setCell, World.size_drew]; omega))) | ((with_reducible refine Below.setCell ?_ ?_ _); rotate_left; (first | (with_reducible exact Nat.zero_le _) | (with_reducible exact Nat.le_refl _) | omega | (dsimp only; omega) | (simp only [World.size_alloc, World.size_setCell, World.size_drew]; omega))))
  have B0 : Blk (w.alloc (.cells (ints (netL ((n : Int) + 3) fun _ _ => 0)) 68)) w.heap.size 68 (ints (netL (n + 3 : Nat) (capOf (n + 1) (n + 2) (E.take 0)))) := Blk.new w 68 (ints (netL ((n : Int) + 3) fun _ _ => 0))
  go_wp2_with (refine wpList_build_net rfl _ rfl (n + 3) rfl ?_)
  go_loopw [9, 29] (fun ne i wr => CapRel w n E ne i wr) (fun _ i _ => (E.length - intOf i).toNat)
  case atStart => exact ⟨0, Nat.zero_le _, rfl, rfl, hb0, B0⟩
  case round =>
    clear hb0 B0
    obtain ⟨k, hk, rfl, rfl, hb, BN⟩ := hrel
    have hsz := hb.size
    by_cases hlt : k < E.length
    · have hkl : (k : Int) < E.length := by omega
      have hk0 : (0 : Int) ≤ k := by omega
      obtain ⟨eb, eo, heo, hez, hec⟩ := HL.out (by rintro rfl; simp at hlt)
      subst heo
      obtain ⟨e, he⟩ : ∃ e, E[k]? = some e := ⟨_, List.getElem?_eq_getElem hlt⟩
      have hB := HE.out e (List.mem_of_getElem? he)
      have hcl : ∀ u v, 0 ≤ capOf (n + 1) (n + 2) (E.take k) u v ∧ capOf (n + 1) (n + 2) (E.take k) u v ≤ 162129586585337856 := fun u v => by
        have h1 := capOf_le (s := n + 1) (t := n + 2) (l := E.take k) (fun x hx => HE.out x (List.mem_of_mem_take hx)) u v
        have h2 := cap_nonneg (s := n + 1) (t := n + 2) (l := E.take k) (fun x hx => (HE.out x (List.mem_of_mem_take hx)).ok) u v
        have h3 : (E.take k).length ≤ 96 := by simp; omega
        exact ⟨h2, by omega⟩
      have hnd := needOf_le (l := E.take k) fun x hx => HE.out x (List.mem_of_mem_take hx)
      have hnd3 : (E.take k).length ≤ 96 := by simp; omega
      have hst := cap_step hB.ok (E.take k)
      have hns := needOf_snoc e (E.take k)
      rw [← take_snoc he] at hst hns
      obtain ⟨eu, ev, lo, hi⟩ := e
      obtain ⟨⟨b1, b2, b3, b4⟩, b5⟩ := hB
      dsimp only at b1 b2 b3 b4 b5 hns
      have e0 : World.cell? wr ⟨eb, eo + k * 5, none⟩ = some (.int .i64 (eu : Nat)) := (hb.cell (p := ⟨eb, eo + k * 5, none⟩) hez).trans (hec k _ he 0 (by omega))
      have e1 : World.cell? wr ⟨eb, eo + k * 5 + 1, none⟩ = some (.int .i64 (ev : Nat)) := (hb.cell (p := ⟨eb, eo + k * 5 + 1, none⟩) hez).trans (hec k _ he 1 (by omega))
      have e2 : World.cell? wr ⟨eb, eo + k * 5 + 2, none⟩ = some (.int .i64 lo) := (hb.cell (p := ⟨eb, eo + k * 5 + 2, none⟩) hez).trans (hec k _ he 2 (by omega))
      have e3 : World.cell? wr ⟨eb, eo + k * 5 + 3, none⟩ = some (.int .i64 hi) := (hb.cell (p := ⟨eb, eo + k * 5 + 3, none⟩) hez).trans (hec k _ he 3 (by omega))
      have e4 : World.cell? wr ⟨eb, eo + k * 5 + 4, none⟩ = some (.int .i64 0) := (hb.cell (p := ⟨eb, eo + k * 5 + 4, none⟩) hez).trans (hec k _ he 4 (by omega))
      have HST := Lib.hid hst
      have HNS := Lib.hid hns
      clear hst hns he hec
      generalize capOf (n + 1) (n + 2) (E.take k) = C at *
      generalize needOf (E.take k) = F at *
      go_wp2_with fail
      have BE : Blk (wr.alloc (.cells #[.int .i64 (eu : Nat), .int .i64 (ev : Nat), .int .i64 lo, .int .i64 hi, .int .i64 0] 60)) wr.heap.size 60 #[.int .i64 (eu : Nat), .int .i64 (ev : Nat), .int .i64 lo, .int .i64 hi, .int .i64 0] := Blk.new wr 60 #[.int .i64 (eu : Nat), .int .i64 (ev : Nat), .int .i64 lo, .int .i64 hi, .int .i64 0]
      have hltn := BN.lt
      replace BN := BN.alloc (.cells #[.int .i64 (eu : Nat), .int .i64 (ev : Nat), .int .i64 lo, .int .i64 hi, .int .i64 0] 60)
      replace hb := hb.alloc hsz (.cells #[.int .i64 (eu : Nat), .int .i64 (ev : Nat), .int .i64 lo, .int .i64 hi, .int .i64 0] 60)
      clear e0 e1 e2 e3 e4
      have hgb : wr.heap.size ≠ w.heap.size := by omega
      generalize wr.alloc (.cells #[.int .i64 (eu : Nat), .int .i64 (ev : Nat), .int .i64 lo, .int .i64 hi, .int .i64 0] 60) = w2 at *
      generalize hgbe : wr.heap.size = gb at *
      have u1 : (0 : Int) ≤ eu := by omega
      have u2 : (eu : Int) < 11 := by omega
      have u3 : eu < 11 := by omega
      have v1 : (0 : Int) ≤ ev := by omega
      have v2 : (ev : Int) < 11 := by omega
      have v3 : ev < 11 := by omega
      have s1 : (0 : Int) ≤ (n : Int) + 1 := by omega
      have s2 : (n : Int) + 1 < 11 := by omega
      have s3 : n + 1 < 11 := by omega
      have t1 : (0 : Int) ≤ (n : Int) + 2 := by omega
      have t2 : (n : Int) + 2 < 11 := by omega
      have t3 : n + 2 < 11 := by omega
      have c0 := BE.cell 0
      have c1 := BE.cell 1
      have c2 := BE.cell 2
      have c3 := BE.cell 3
      have le := BE.lt
      have ln := BN.lt
      have d0 : ∀ y : BW w2, y.w.cell? ⟨gb, 0, none⟩ = some (.int .i64 (eu : Nat)) := fun y => (y.cell le).trans c0
      have d1 : ∀ y : BW w2, y.w.cell? ⟨gb, 0 + 1, none⟩ = some (.int .i64 (ev : Nat)) := fun y => (y.cell le).trans c1
      have d2 : ∀ y : BW w2, y.w.cell? ⟨gb, 0 + 2, none⟩ = some (.int .i64 lo) := fun y => (y.cell le).trans c2
      have d3 : ∀ y : BW w2, y.w.cell? ⟨gb, 0 + 3, none⟩ = some (.int .i64 hi) := fun y => (y.cell le).trans c3
      have d4 : ∀ y : BW w2, y.w.cell? ⟨w.heap.size, 1 + eu * 11 + ev, none⟩ = some (.int .i64 (C eu ev)) := fun y => (y.cell ln).trans (BN.geti (netL_get _ C u3 v3))
      have h4 := hcl eu ev
      have h5 := hcl (n + 1) ev
      have h6 := hcl eu (n + 2)
      clear hcl
      refine wp_region_calm_tail 20 (by kernel_rfl) (by kernel_rfl) ?_
      simp only [List.take_succ_cons, List.take_zero, List.drop_succ_cons, List.drop_zero]
      repeat (go_big_quiet_step (fail))
      skip
      first | refine wpQuiet_nil ?_ | skip
      intro w5 hb5
      clear d0 d1 d2 d3 d4 c0 c1 c2 c3 le ln
      replace BE := BE.step hb5
      replace BN := BN.step hb5
      replace hb := hb.trans (hb5.mono hb.size)
      have cn := BN.geti (netL_get _ C u3 v3)
      have fn := BN.free (1 + eu * 11 + ev)
      have le := BE.lt
      have ln := BN.lt
      go_wp2_with fail
      clear cn fn le ln
      replace BN := BN.seti (1 + eu * 11 + ev) (C eu ev + (hi - lo))
      rw [netL_set _ C u3 v3] at BN
      replace BE := BE.far (p := ⟨w.heap.size, 1 + eu * 11 + ev, none⟩) hgb (.int .i64 (C eu ev + (hi - lo)))
      replace hb := hb.setCell (p := ⟨w.heap.size, 1 + eu * 11 + ev, none⟩) (Nat.le_refl _) (.int .i64 (C eu ev + (hi - lo)))
      clear hb5
      have hv : upd C eu ev (C eu ev + (hi - lo)) (n + 1) ev = C (n + 1) ev := upd_other _ (fun h => by omega)
      have hv2 : upd C eu ev (C eu ev + (hi - lo)) eu (n + 2) = C eu (n + 2) := upd_other _ (fun h => by omega)
      generalize hC1 : upd C eu ev (C eu ev + (hi - lo)) = C1 at *
      have HC1 := Lib.hid hC1
      clear hC1
      generalize hwe : World.setCell _ _ _ = w6 at *
      clear hwe
      have c0 := BE.cell 0
      have c1 := BE.cell 1
      have c2 := BE.cell 2
      have c3 := BE.cell 3
      have le := BE.lt
      have ln := BN.lt
      have cn := BN.geti (netL_get _ C1 s3 v3)
      rw [hv] at cn
      have d0 : ∀ y : BW w6, y.w.cell? ⟨gb, 0, none⟩ = some (.int .i64 (eu : Nat)) := fun y => (y.cell le).trans c0
      have d1 : ∀ y : BW w6, y.w.cell? ⟨gb, 0 + 1, none⟩ = some (.int .i64 (ev : Nat)) := fun y => (y.cell le).trans c1
      have d2 : ∀ y : BW w6, y.w.cell? ⟨gb, 0 + 2, none⟩ = some (.int .i64 lo) := fun y => (y.cell le).trans c2
      have d3 : ∀ y : BW w6, y.w.cell? ⟨gb, 0 + 3, none⟩ = some (.int .i64 hi) := fun y => (y.cell le).trans c3
      have d4 := fun y : BW w6 => (y.cell ln).trans cn
      refine wp_region_calm_tail 16 (by kernel_rfl) (by kernel_rfl) ?_
      simp only [List.take_succ_cons, List.take_zero, List.drop_succ_cons, List.drop_zero]
      repeat (go_big_quiet_step (fail))
      skip
      first | refine wpQuiet_nil ?_ | skip
      intro w7 hb7
      clear d0 d1 d2 d3 d4 c0 c1 c2 c3 le ln
      replace BE := BE.step hb7
      replace BN := BN.step hb7
      replace hb := hb.trans (hb7.mono hb.size)
      have cn := BN.geti (netL_get _ C1 s3 v3)
      have fn := BN.free (1 + (n + 1) * 11 + ev)
      have le := BE.lt
      have ln := BN.lt
      go_wp2_with fail
      clear cn fn le ln
      replace BN := BN.seti (1 + (n + 1) * 11 + ev) (C (n + 1) ev + lo)
      rw [netL_set _ C1 s3 v3] at BN
      replace BE := BE.far (p := ⟨w.heap.size, 1 + (n + 1) * 11 + ev, none⟩) hgb (.int .i64 (C (n + 1) ev + lo))
      replace hb := hb.setCell (p := ⟨w.heap.size, 1 + (n + 1) * 11 + ev, none⟩) (Nat.le_refl _) (.int .i64 (C (n + 1) ev + lo))
      clear hb7
      clear hv
      have hv : upd C1 (n + 1) ev (C (n + 1) ev + lo) eu (n + 2) = C eu (n + 2) := (upd_other _ (fun h => by omega)).trans hv2
      generalize hC2 : upd C1 (n + 1) ev (C (n + 1) ev + lo) = C2 at *
      have HC2 := Lib.hid hC2
      clear hC2 hv2
      generalize hwe : World.setCell _ _ _ = w8 at *
      clear hwe
      have c0 := BE.cell 0
      have c1 := BE.cell 1
      have c2 := BE.cell 2
      have c3 := BE.cell 3
      have le := BE.lt
      have ln := BN.lt
      have cn := BN.geti (netL_get _ C2 u3 t3)
      rw [hv] at cn
      have d0 : ∀ y : BW w8, y.w.cell? ⟨gb, 0, none⟩ = some (.int .i64 (eu : Nat)) := fun y => (y.cell le).trans c0
      have d1 : ∀ y : BW w8, y.w.cell? ⟨gb, 0 + 1, none⟩ = some (.int .i64 (ev : Nat)) := fun y => (y.cell le).trans c1
      have d2 : ∀ y : BW w8, y.w.cell? ⟨gb, 0 + 2, none⟩ = some (.int .i64 lo) := fun y => (y.cell le).trans c2
      have d3 : ∀ y : BW w8, y.w.cell? ⟨gb, 0 + 3, none⟩ = some (.int .i64 hi) := fun y => (y.cell le).trans c3
      have d4 := fun y : BW w8 => (y.cell ln).trans cn
      refine wp_region_calm_tail 16 (by kernel_rfl) (by kernel_rfl) ?_
      simp only [List.take_succ_cons, List.take_zero, List.drop_succ_cons, List.drop_zero]
      repeat (go_big_quiet_step (fail))
      first | refine wpQuiet_nil ?_ | skip
      intro w9 hb9
      clear d0 d1 d2 d3 d4 c0 c1 c2 c3 le ln
      replace BE := BE.step hb9
      replace BN := BN.step hb9
      replace hb := hb.trans (hb9.mono hb.size)
      have cn9 := BN.geti (netL_get _ C2 u3 t3)
      have fn := BN.free (1 + eu * 11 + (n + 2))
      have le := BE.lt
      have ln := BN.lt
      have c2 := BE.cell 2
      go_wp2_with fail
      replace BN := BN.seti (1 + eu * 11 + (n + 2)) (C eu (n + 2) + lo)
      have hcg := netL_congr (n := ((n + 3 : Nat) : Int)) (fun u v _ _ => HST.out u v)
      unfold capUp at hcg
      dsimp only at hcg
      rw [netL_set _ C2 u3 t3, ← HC2.out, ← HC1.out, hcg] at BN
      go_roundw
      case rel => exact ⟨k + 1, hlt, by simp, by rw [HNS.out], hb.setCell (p := ⟨w.heap.size, 1 + eu * 11 + (n + 2), none⟩) (Nat.le_refl _) _, BN⟩
      case measure => simp [intOf]; omega
    · obtain rfl : k = E.length := by omega
      rw [List.take_length] at BN ⊢
      have BA : Blk (wr.alloc (.cells (ints (arrL (capOf (n + 1) (n + 2) E))) 66)) wr.heap.size 66 (ints (arrL (capOf (n + 1) (n + 2) E))) := Blk.new wr 66 (ints (arrL (capOf (n + 1) (n + 2) E)))
      have BN2 := BN.alloc (.cells (ints (arrL (capOf (n + 1) (n + 2) E))) 66)
      have hb2 := hb.alloc hsz (.cells (ints (arrL (capOf (n + 1) (n + 2) E))) 66)
      have hltn := BN.lt
      have hcE : ∀ u v, 0 ≤ capOf (n + 1) (n + 2) E u v ∧ capOf (n + 1) (n + 2) E u v ≤ 162129586585337856 := fun u v => by
        have h1 := capOf_le (s := n + 1) (t := n + 2) (l := E) (fun x hx => HE.out x hx) u v
        have h2 := cap_nonneg (s := n + 1) (t := n + 2) (l := E) (fun x hx => (HE.out x hx).ok) u v
        exact ⟨h2, by omega⟩
      have hres := res_start fun e he => (HE.out e he).ok
      have hnd := needOf_le (l := E) fun x hx => HE.out x hx
      have HRES := Lib.hid hres
      have HCE := Lib.hid hcE
      clear hres hcE
      go_wp2_with (first | refine wpList_load_arr rfl _ rfl w.heap.size rfl _ _ BN ?_ | refine wpList_alloc_arr rfl rfl ?_ | refine wpList_store_arr rfl _ _ rfl _ _ rfl rfl ?_)
      go_simp
      have hltn' : wr.heap.size ≠ w.heap.size := by omega
      generalize hab : wr.heap.size = ab at *
      go_loopg [9] (needOf E).toNat (fun m ne wx => PushRel w ab n E m ne wx)
      case atStart => exact ⟨_, 0, by simp, Int.le_refl _, hnd.1, by simp, hb2, BN2, HRES.out, BA⟩
      case round =>
        clear BA BN2 hb2 BN hb
        obtain ⟨R, F, rfl, hF0, hF, hm, hb, BN, hres, BA⟩ := hrel
        have hsz2 := hb.size
        have hnew := BN.lt
        have hawl := BA.lt
        have hRb : ∀ u v, u < n + 3 → v < n + 3 → 0 ≤ R u v ∧ R u v ≤ 1152921504606846976 := fun u v hu hv => by
          have h1 := hres.nonneg u v hu hv
          have h2 := hres.nonneg v u hv hu
          have h3 := hres.sym u v hu hv
          have h4 := HCE.out u v
          have h5 := HCE.out v u
          exact ⟨h1, by omega⟩
        by_cases hlt : F < needOf E
        · have hgt : 0 < needOf E - F := by omega
          have hcap : ∀ u v, u < n + 3 → v < n + 3 → capOf (n + 1) (n + 2) E u v + capOf (n + 1) (n + 2) E v u ≤ 1152921504606846976 := fun u v _ _ => by
            have h4 := HCE.out u v
            have h5 := HCE.out v u
            omega
          have HPU := Lib.hid (push_any (n := n) R (needOf E - F) (by omega) BN hRb hgt (by omega) hres hcap)
          have HRE := Lib.hid hres
          have HM := Lib.hid hm
          clear hRb hcap hres hm
          go_wp2_with (go_at_call 36; refine HPU.out.mono ?_; rintro e w5 ⟨d, rfl, h5⟩; rcases h5 with ⟨rfl, hb5, S, hS1, hS2, hS3⟩ | ⟨hd0, hdle, hg5, R5, BN5, hres5⟩)
          · go_ret2
            exact ⟨hb.trans (hb5.mono hsz2), .inl ⟨rfl, _, stuck_room (fun e he => (HE.out e he).ok) HRE.out S hS1 hS2 hS3 hlt⟩⟩
          · go_roundg (needOf E - F - d).toNat
            case measure => have := HM.out; omega
            case rel => exact ⟨R5, F + d, by congr 1; omega, by omega, by omega, by congr 1; omega, Below.grown hb hg5 hsz2 (fun j hj => by cases hj; exact Nat.le_refl _), BN5, hres5, Blk.grown BA hg5 (fun e => hltn' (Option.some.inj e))⟩
        · obtain rfl : F = needOf E := by omega
          have HRE := Lib.hid hres
          have HRB := Lib.hid hRb
          clear hres hm hRb
          obtain ⟨ti, hi, hz, hsi, hby⟩ := info_of (P := Try.prog) (t := 3) (z := .int .i64 0) (size := 1) (bytes := 8) (by kernel_rfl)
          have BO : Blk (wr.alloc (.cells (madeCells #[.int .i64 0] E.length) 3)) wr.heap.size 3 (ints ([] ++ List.replicate (E.length - 0) 0)) := by
            have := Blk.new wr 3 (madeCells #[.int .i64 0] E.length)
            rw [ints_made] at this ⊢
            simpa using this
          have BA2 : Blk (wr.alloc (.cells (madeCells #[.int .i64 0] E.length) 3)) ab 66 (ints (arrL fun u v => capOf (n + 1) (n + 2) E u v - (fun _ _ => 0 : Nat → Nat → Int) u v)) := by
            have := BA.alloc (.cells (madeCells #[.int .i64 0] E.length) 3)
            rw [arrL_congr (S := fun u v => capOf (n + 1) (n + 2) E u v - (fun _ _ => 0 : Nat → Nat → Int) u v) (fun u v _ _ => by simp)] at this
            exact this
          have BN3 := BN.alloc (.cells (madeCells #[.int .i64 0] E.length) 3)
          have hb3 := hb.alloc hsz2 (.cells (madeCells #[.int .i64 0] E.length) 3)
          have hob1 : wr.heap.size ≠ w.heap.size := by omega
          have hob2 : wr.heap.size ≠ ab := by omega
          have hobw : w.heap.size ≤ wr.heap.size := hsz2
          clear BA BN hb
          go_wp2_with (at_make; go_loud (refine wpList_make_row _ rfl _ _ 29 rfl 3 ti (.int .i64 0) Try.underlying29 hi hz hsi (by rfl) .i64 .i64 E.length rfl rfl (by rw [hby]; omega) (by omega) ?_))
          generalize hobe : wr.heap.size = ob at *
          go_loopw [111] (fun i wx => GivRel w ab ob n E R i wx) (fun i _ => (E.length - intOf i).toNat)
          case atStart => exact ⟨0, [], _, Nat.zero_le _, rfl, GiveAt.start _ _, hb3, BN3, BA2, BO⟩
          case round =>
            clear hb3 BN3 BA2 BO hobe hnew hawl hsz2
            obtain ⟨k, pre, D, hk, rfl, hG, hb, BN, BA, BO⟩ := hrel
            have hsz2 := hb.size
            by_cases hlt2 : k < E.length
            · have hkl : (k : Int) < E.length := by omega
              have hk0 : (0 : Int) ≤ k := by omega
              obtain ⟨eb, eo, heo, hez, hec⟩ := HL.out (by rintro rfl; simp at hlt2)
              subst heo
              obtain ⟨e, he⟩ : ∃ e, E[k]? = some e := ⟨_, List.getElem?_eq_getElem hlt2⟩
              have hB := HE.out e (List.mem_of_getElem? he)
              have hG2 := hG.step he hB.ok.lo hB.ok.hi hB.le
              have hplen := hG.len
              have hDr := hG.rng
              obtain ⟨eu, ev, lo, hi⟩ := e
              obtain ⟨⟨b1, b2, b3, b4⟩, b5⟩ := hB
              dsimp only at b1 b2 b3 b4 b5 hG2
              have e0 : World.cell? wr ⟨eb, eo + k * 5, none⟩ = some (.int .i64 (eu : Nat)) := (hb.cell (p := ⟨eb, eo + k * 5, none⟩) hez).trans (hec k _ he 0 (by omega))
              have e1 : World.cell? wr ⟨eb, eo + k * 5 + 1, none⟩ = some (.int .i64 (ev : Nat)) := (hb.cell (p := ⟨eb, eo + k * 5 + 1, none⟩) hez).trans (hec k _ he 1 (by omega))
              have e2 : World.cell? wr ⟨eb, eo + k * 5 + 2, none⟩ = some (.int .i64 lo) := (hb.cell (p := ⟨eb, eo + k * 5 + 2, none⟩) hez).trans (hec k _ he 2 (by omega))
              have e3 : World.cell? wr ⟨eb, eo + k * 5 + 3, none⟩ = some (.int .i64 hi) := (hb.cell (p := ⟨eb, eo + k * 5 + 3, none⟩) hez).trans (hec k _ he 3 (by omega))
              have e4 : World.cell? wr ⟨eb, eo + k * 5 + 4, none⟩ = some (.int .i64 0) := (hb.cell (p := ⟨eb, eo + k * 5 + 4, none⟩) hez).trans (hec k _ he 4 (by omega))
              have r1 := HRB.out eu ev (by omega) (by omega)
              have r2 := HCE.out eu ev
              have r3 := hDr eu ev
              have HG2 := Lib.hid hG2
              clear hG2 hG he hec hDr
              have hCD : -1152921504606846976 ≤ capOf (n + 1) (n + 2) E eu ev - D eu ev ∧ capOf (n + 1) (n + 2) E eu ev - D eu ev ≤ 1152921504606846976 := by omega
              go_wp2_with fail
              have BE : Blk (wr.alloc (.cells #[.int .i64 (eu : Nat), .int .i64 (ev : Nat), .int .i64 lo, .int .i64 hi, .int .i64 0] 60)) wr.heap.size 60 #[.int .i64 (eu : Nat), .int .i64 (ev : Nat), .int .i64 lo, .int .i64 hi, .int .i64 0] := Blk.new wr 60 #[.int .i64 (eu : Nat), .int .i64 (ev : Nat), .int .i64 lo, .int .i64 hi, .int .i64 0]
              have hltA := BA.lt
              have hltO := BO.lt
              replace BN := BN.alloc (.cells #[.int .i64 (eu : Nat), .int .i64 (ev : Nat), .int .i64 lo, .int .i64 hi, .int .i64 0] 60)
              replace BA := BA.alloc (.cells #[.int .i64 (eu : Nat), .int .i64 (ev : Nat), .int .i64 lo, .int .i64 hi, .int .i64 0] 60)
              replace BO := BO.alloc (.cells #[.int .i64 (eu : Nat), .int .i64 (ev : Nat), .int .i64 lo, .int .i64 hi, .int .i64 0] 60)
              replace hb := hb.alloc hsz2 (.cells #[.int .i64 (eu : Nat), .int .i64 (ev : Nat), .int .i64 lo, .int .i64 hi, .int .i64 0] 60)
              clear e0 e1 e2 e3 e4
              have hgA : wr.heap.size ≠ ab := by omega
              have hgO : wr.heap.size ≠ ob := by omega
              generalize wr.alloc (.cells #[.int .i64 (eu : Nat), .int .i64 (ev : Nat), .int .i64 lo, .int .i64 hi, .int .i64 0] 60) = w2 at *
              generalize hgbe : wr.heap.size = gb at *
              clear hgbe hltA hltO hsz2
              have u1 : (0 : Int) ≤ eu := by omega
              have u2 : (eu : Int) < 11 := by omega
              have u3 : eu < 11 := by omega
              have v1 : (0 : Int) ≤ ev := by omega
              have v2 : (ev : Int) < 11 := by omega
              have v3 : ev < 11 := by omega
              have c0 := BE.cell 0
              have c1 := BE.cell 1
              have le := BE.lt
              have ln := BN.lt
              have la2 := BA.lt
              have cA : World.cell? w2 ⟨ab, eu * 11 + ev, none⟩ = some (.int .i64 (capOf (n + 1) (n + 2) E eu ev - D eu ev)) := BA.geti (arrL_get _ u3 v3)
              have cN : World.cell? w2 ⟨w.heap.size, 1 + eu * 11 + ev, none⟩ = some (.int .i64 (R eu ev)) := BN.geti (netL_get _ R u3 v3)
              have HGK := Lib.hid (giveK_le (w := fun u v => capOf (n + 1) (n + 2) E u v - R u v) (e := ⟨eu, ev, lo, hi⟩) (D := D) b4)
              have hgk : giveK (fun u v => capOf (n + 1) (n + 2) E u v - R u v) ⟨eu, ev, lo, hi⟩ D = if (if capOf (n + 1) (n + 2) E eu ev - R eu ev - D eu ev < 0 then 0 else capOf (n + 1) (n + 2) E eu ev - R eu ev - D eu ev) < hi - lo then (if capOf (n + 1) (n + 2) E eu ev - R eu ev - D eu ev < 0 then 0 else capOf (n + 1) (n + 2) E eu ev - R eu ev - D eu ev) else hi - lo := rfl
              generalize giveK (fun u v => capOf (n + 1) (n + 2) E u v - R u v) ⟨eu, ev, lo, hi⟩ D = K at *
              have HK := Lib.hid hgk
              clear hgk
              generalize hCe : capOf (n + 1) (n + 2) E eu ev = Cx at *
              have HCe := Lib.hid hCe
              clear hCe
              generalize hDe : D eu ev = Dx at *
              have HDe := Lib.hid hDe
              clear hDe
              generalize R eu ev = Rx at *
              have hcapset : arrL (upd (fun u v => capOf (n + 1) (n + 2) E u v - D u v) eu ev (Cx - Dx - K)) = arrL fun u v => capOf (n + 1) (n + 2) E u v - upd D eu ev (Dx + K) u v := arrL_congr fun u v _ _ => by
                unfold upd
                split
                · rename_i h; rw [h.1, h.2, HCe.out]; omega
                · rfl
              have d0 : ∀ y : BW w2, y.w.cell? ⟨gb, 0, none⟩ = some (.int .i64 (eu : Nat)) := fun y => (y.cell le).trans c0
              have d1 : ∀ y : BW w2, y.w.cell? ⟨gb, 0 + 1, none⟩ = some (.int .i64 (ev : Nat)) := fun y => (y.cell le).trans c1
              have d4 : ∀ y : BW w2, y.w.cell? ⟨w.heap.size, 1 + eu * 11 + ev, none⟩ = some (.int .i64 Rx) := fun y => (y.cell ln).trans cN
              have d5 : ∀ y : BW w2, y.w.cell? ⟨ab, eu * 11 + ev, none⟩ = some (.int .i64 (Cx - Dx)) := fun y => (y.cell la2).trans cA
              have HE0 := Lib.hid hcapset
              have hob2' := hob2.symm
              have hgA' := hgA.symm
              have hgO' := hgO.symm
              clear hcapset
              rcases Int.lt_or_le (Cx - Dx - Rx) 0 with hneg | hneg
              · have hKe : K = 0 := by rw [HK.out]; (repeat' split) <;> omega
                skip
                refine wp_region_calm (by kernel_rfl) (by kernel_rfl) ?_
                repeat (go_big_quiet_step (fail))
                first | refine wpQuiet_nil ?_ | skip
                intro w5 hb5
                clear d0 d1 d4 d5 c0 c1 le ln la2 cA cN
                replace BE := BE.step hb5
                replace BN := BN.step hb5
                replace BA := BA.step hb5
                replace BO := BO.step hb5
                replace hb := hb.trans (hb5.mono hb.size)
                clear hb5
                have c0 := BE.cell 0
                have c1 := BE.cell 1
                have c2 := BE.cell 2
                have c3 := BE.cell 3
                have le := BE.lt
                have la2 := BA.lt
                have cA : World.cell? w5 ⟨ab, eu * 11 + ev, none⟩ = some (.int .i64 (Cx - Dx)) := by rw [← HCe.out, ← HDe.out]; exact BA.geti (arrL_get _ u3 v3)
                have d0 : ∀ y : BW w5, y.w.cell? ⟨gb, 0, none⟩ = some (.int .i64 (eu : Nat)) := fun y => (y.cell le).trans c0
                have d1 : ∀ y : BW w5, y.w.cell? ⟨gb, 0 + 1, none⟩ = some (.int .i64 (ev : Nat)) := fun y => (y.cell le).trans c1
                have d5 : ∀ y : BW w5, y.w.cell? ⟨ab, eu * 11 + ev, none⟩ = some (.int .i64 (Cx - Dx)) := fun y => (y.cell la2).trans cA
                go_wp2_with fail
                refine wp_region_calm_tail 11 (by kernel_rfl) (by kernel_rfl) ?_
                simp only [List.take_succ_cons, List.take_zero, List.drop_succ_cons, List.drop_zero]
                repeat (go_big_quiet_step (fail))
                first | refine wpQuiet_nil ?_ | skip
                intro w6 hb6
                clear d0 d1 d5 c0 c1 c2 c3 le la2 cA
                replace BE := BE.step hb6
                replace BN := BN.step hb6
                replace BA := BA.step hb6
                replace BO := BO.step hb6
                replace hb := hb.trans (hb6.mono hb.size)
                clear hb6
                have c2 := BE.cell 2
                have le := BE.lt
                have la2 := BA.lt
                have fA := BA.free (eu * 11 + ev)
                have cA : World.cell? w6 ⟨ab, eu * 11 + ev, none⟩ = some (.int .i64 (Cx - Dx)) := by rw [← HCe.out, ← HDe.out]; exact BA.geti (arrL_get _ u3 v3)
                have cO : World.cell? w6 ⟨ob, k, none⟩ = some (.int .i64 0) := BO.geti (next_get hplen hlt2)
                have fO := BO.free k
                have lO := BO.lt
                go_wp2_with fail
                have BA7 := (BA.seti (eu * 11 + ev) (Cx - Dx)).far (p := ⟨ob, k, none⟩) hob2' (.int .i64 (lo))
                have BN7 := (BN.far (p := ⟨ab, eu * 11 + ev, none⟩) (Ne.symm hltn') (.int .i64 (Cx - Dx))).far (p := ⟨ob, k, none⟩) (Ne.symm hob1) (.int .i64 (lo))
                have BO7 := (BO.far (p := ⟨ab, eu * 11 + ev, none⟩) hob2 (.int .i64 (Cx - Dx))).seti k (lo)
                have hA8 : arrL (upd (fun u v => capOf (n + 1) (n + 2) E u v - D u v) eu ev (Cx - Dx)) = arrL fun u v => capOf (n + 1) (n + 2) E u v - upd D eu ev (Dx + K) u v := by
                  rw [show (Cx - Dx) = Cx - Dx - K from by omega]; exact HE0.out
                have hO8 : pre ++ [lo] = pre ++ [lo + K] := by congr 2; omega
                rw [arrL_set _ u3 v3, hA8] at BA7
                rw [next_set hplen hlt2, hO8] at BO7
                have hb7 := (hb.setCell (p := ⟨ab, eu * 11 + ev, none⟩) hsz (.int .i64 (Cx - Dx))).setCell (p := ⟨ob, k, none⟩) hobw (.int .i64 (lo))
                go_roundw
                case rel => exact ⟨k + 1, pre ++ [lo + K], upd D eu ev (Dx + K), hlt2, by simp, HG2.out, hb7, BN7, BA7, BO7⟩
                case measure => simp [intOf]; omega
              · rcases Int.lt_or_le (hi - lo) (Cx - Dx - Rx) with hmn | hmn
                · have hKe : K = hi - lo := by rw [HK.out]; (repeat' split) <;> omega
                  skip
                  refine wp_region_calm (by kernel_rfl) (by kernel_rfl) ?_
                  repeat (go_big_quiet_step (fail))
                  first | refine wpQuiet_nil ?_ | skip
                  intro w5 hb5
                  clear d0 d1 d4 d5 c0 c1 le ln la2 cA cN
                  replace BE := BE.step hb5
                  replace BN := BN.step hb5
                  replace BA := BA.step hb5
                  replace BO := BO.step hb5
                  replace hb := hb.trans (hb5.mono hb.size)
                  clear hb5
                  have c0 := BE.cell 0
                  have c1 := BE.cell 1
                  have c2 := BE.cell 2
                  have c3 := BE.cell 3
                  have le := BE.lt
                  have la2 := BA.lt
                  have cA : World.cell? w5 ⟨ab, eu * 11 + ev, none⟩ = some (.int .i64 (Cx - Dx)) := by rw [← HCe.out, ← HDe.out]; exact BA.geti (arrL_get _ u3 v3)
                  have d0 : ∀ y : BW w5, y.w.cell? ⟨gb, 0, none⟩ = some (.int .i64 (eu : Nat)) := fun y => (y.cell le).trans c0
                  have d1 : ∀ y : BW w5, y.w.cell? ⟨gb, 0 + 1, none⟩ = some (.int .i64 (ev : Nat)) := fun y => (y.cell le).trans c1
                  have d5 : ∀ y : BW w5, y.w.cell? ⟨ab, eu * 11 + ev, none⟩ = some (.int .i64 (Cx - Dx)) := fun y => (y.cell la2).trans cA
                  go_wp2_with fail
                  refine wp_region_calm_tail 11 (by kernel_rfl) (by kernel_rfl) ?_
                  simp only [List.take_succ_cons, List.take_zero, List.drop_succ_cons, List.drop_zero]
                  repeat (go_big_quiet_step (fail))
                  first | refine wpQuiet_nil ?_ | skip
                  intro w6 hb6
                  clear d0 d1 d5 c0 c1 c2 c3 le la2 cA
                  replace BE := BE.step hb6
                  replace BN := BN.step hb6
                  replace BA := BA.step hb6
                  replace BO := BO.step hb6
                  replace hb := hb.trans (hb6.mono hb.size)
                  clear hb6
                  have c2 := BE.cell 2
                  have le := BE.lt
                  have la2 := BA.lt
                  have fA := BA.free (eu * 11 + ev)
                  have cA : World.cell? w6 ⟨ab, eu * 11 + ev, none⟩ = some (.int .i64 (Cx - Dx)) := by rw [← HCe.out, ← HDe.out]; exact BA.geti (arrL_get _ u3 v3)
                  have cO : World.cell? w6 ⟨ob, k, none⟩ = some (.int .i64 0) := BO.geti (next_get hplen hlt2)
                  have fO := BO.free k
                  have lO := BO.lt
                  go_wp2_with fail
                  have BA7 := (BA.seti (eu * 11 + ev) (Cx - Dx - (hi - lo))).far (p := ⟨ob, k, none⟩) hob2' (.int .i64 (lo + (hi - lo)))
                  have BN7 := (BN.far (p := ⟨ab, eu * 11 + ev, none⟩) (Ne.symm hltn') (.int .i64 (Cx - Dx - (hi - lo)))).far (p := ⟨ob, k, none⟩) (Ne.symm hob1) (.int .i64 (lo + (hi - lo)))
                  have BO7 := (BO.far (p := ⟨ab, eu * 11 + ev, none⟩) hob2 (.int .i64 (Cx - Dx - (hi - lo)))).seti k (lo + (hi - lo))
                  have hA8 : arrL (upd (fun u v => capOf (n + 1) (n + 2) E u v - D u v) eu ev (Cx - Dx - (hi - lo))) = arrL fun u v => capOf (n + 1) (n + 2) E u v - upd D eu ev (Dx + K) u v := by
                    rw [show (Cx - Dx - (hi - lo)) = Cx - Dx - K from by omega]; exact HE0.out
                  have hO8 : pre ++ [lo + (hi - lo)] = pre ++ [lo + K] := by congr 2; omega
                  rw [arrL_set _ u3 v3, hA8] at BA7
                  rw [next_set hplen hlt2, hO8] at BO7
                  have hb7 := (hb.setCell (p := ⟨ab, eu * 11 + ev, none⟩) hsz (.int .i64 (Cx - Dx - (hi - lo)))).setCell (p := ⟨ob, k, none⟩) hobw (.int .i64 (lo + (hi - lo)))
                  go_roundw
                  case rel => exact ⟨k + 1, pre ++ [lo + K], upd D eu ev (Dx + K), hlt2, by simp, HG2.out, hb7, BN7, BA7, BO7⟩
                  case measure => simp [intOf]; omega
                · have hKe : K = Cx - Dx - Rx := by rw [HK.out]; (repeat' split) <;> omega
                  skip
                  refine wp_region_calm (by kernel_rfl) (by kernel_rfl) ?_
                  repeat (go_big_quiet_step (fail))
                  first | refine wpQuiet_nil ?_ | skip
                  intro w5 hb5
                  clear d0 d1 d4 d5 c0 c1 le ln la2 cA cN
                  replace BE := BE.step hb5
                  replace BN := BN.step hb5
                  replace BA := BA.step hb5
                  replace BO := BO.step hb5
                  replace hb := hb.trans (hb5.mono hb.size)
                  clear hb5
                  have c0 := BE.cell 0
                  have c1 := BE.cell 1
                  have c2 := BE.cell 2
                  have c3 := BE.cell 3
                  have le := BE.lt
                  have la2 := BA.lt
                  have cA : World.cell? w5 ⟨ab, eu * 11 + ev, none⟩ = some (.int .i64 (Cx - Dx)) := by rw [← HCe.out, ← HDe.out]; exact BA.geti (arrL_get _ u3 v3)
                  have d0 : ∀ y : BW w5, y.w.cell? ⟨gb, 0, none⟩ = some (.int .i64 (eu : Nat)) := fun y => (y.cell le).trans c0
                  have d1 : ∀ y : BW w5, y.w.cell? ⟨gb, 0 + 1, none⟩ = some (.int .i64 (ev : Nat)) := fun y => (y.cell le).trans c1
                  have d5 : ∀ y : BW w5, y.w.cell? ⟨ab, eu * 11 + ev, none⟩ = some (.int .i64 (Cx - Dx)) := fun y => (y.cell la2).trans cA
                  go_wp2_with fail
                  refine wp_region_calm_tail 11 (by kernel_rfl) (by kernel_rfl) ?_
                  simp only [List.take_succ_cons, List.take_zero, List.drop_succ_cons, List.drop_zero]
                  repeat (go_big_quiet_step (fail))
                  first | refine wpQuiet_nil ?_ | skip
                  intro w6 hb6
                  clear d0 d1 d5 c0 c1 c2 c3 le la2 cA
                  replace BE := BE.step hb6
                  replace BN := BN.step hb6
                  replace BA := BA.step hb6
                  replace BO := BO.step hb6
                  replace hb := hb.trans (hb6.mono hb.size)
                  clear hb6
                  have c2 := BE.cell 2
                  have le := BE.lt
                  have la2 := BA.lt
                  have fA := BA.free (eu * 11 + ev)
                  have cA : World.cell? w6 ⟨ab, eu * 11 + ev, none⟩ = some (.int .i64 (Cx - Dx)) := by rw [← HCe.out, ← HDe.out]; exact BA.geti (arrL_get _ u3 v3)
                  have cO : World.cell? w6 ⟨ob, k, none⟩ = some (.int .i64 0) := BO.geti (next_get hplen hlt2)
                  have fO := BO.free k
                  have lO := BO.lt
                  go_wp2_with fail
                  have BA7 := (BA.seti (eu * 11 + ev) (Cx - Dx - (Cx - Dx - Rx))).far (p := ⟨ob, k, none⟩) hob2' (.int .i64 (lo + (Cx - Dx - Rx)))
                  have BN7 := (BN.far (p := ⟨ab, eu * 11 + ev, none⟩) (Ne.symm hltn') (.int .i64 (Cx - Dx - (Cx - Dx - Rx)))).far (p := ⟨ob, k, none⟩) (Ne.symm hob1) (.int .i64 (lo + (Cx - Dx - Rx)))
                  have BO7 := (BO.far (p := ⟨ab, eu * 11 + ev, none⟩) hob2 (.int .i64 (Cx - Dx - (Cx - Dx - Rx)))).seti k (lo + (Cx - Dx - Rx))
                  have hA8 : arrL (upd (fun u v => capOf (n + 1) (n + 2) E u v - D u v) eu ev (Cx - Dx - (Cx - Dx - Rx))) = arrL fun u v => capOf (n + 1) (n + 2) E u v - upd D eu ev (Dx + K) u v := by
                    rw [show (Cx - Dx - (Cx - Dx - Rx)) = Cx - Dx - K from by omega]; exact HE0.out
                  have hO8 : pre ++ [lo + (Cx - Dx - Rx)] = pre ++ [lo + K] := by congr 2; omega
                  rw [arrL_set _ u3 v3, hA8] at BA7
                  rw [next_set hplen hlt2, hO8] at BO7
                  have hb7 := (hb.setCell (p := ⟨ab, eu * 11 + ev, none⟩) hsz (.int .i64 (Cx - Dx - (Cx - Dx - Rx)))).setCell (p := ⟨ob, k, none⟩) hobw (.int .i64 (lo + (Cx - Dx - Rx)))
                  go_roundw
                  case rel => exact ⟨k + 1, pre ++ [lo + K], upd D eu ev (Dx + K), hlt2, by simp, HG2.out, hb7, BN7, BA7, BO7⟩
                  case measure => simp [intOf]; omega
            · obtain rfl : k = E.length := by omega
              have hgd := hG.done
              have hgl := hG.len
              go_wp2_with fail
              go_ret2
              refine ⟨hb, .inr ⟨_, pre, rfl, ?_, by rw [← hgd]; exact give_circ (fun e he => (HE.out e he).ok) HRE.out⟩⟩
              rw [Nat.sub_self, List.replicate_zero, List.append_nil] at BO
              rw [← hgl]
              exact RowIn.of_ints BO (by unfold maxLen; omega)

end Go.Proofs.Ythaoclocachbaaa
