/- Contracts: find; what is left of a lot. -/
import Derived.Test.YtpafcdigcpbbeaaLotD
namespace Go.Proofs.Ytpafcdigcpbbeaa
set_option linter.unusedVariables false
set_option linter.unusedSimpArgs false
open Go.RowKit

def F1Rel (w1 : World) (L : List Lv) (i : Value) (wr : World) : Prop := ∃ k : Nat, k ≤ L.length ∧ i = .int .i64 k ∧ Below w1.heap.size w1 wr ∧ MapIs wr Try.prog 3 eInt w1.heap.size k (kn L k) (ks L k)
def findE (K : Option Int) (b : Nat) : Ending := match K with | some j => .returned (.tuple #[.map (some b), .int .i64 j, .int .i64 0]) | none => .returned (.tuple #[.map none, .int .i64 0, .int .i64 7])
def findOut (w : World) (L : List Lv) (id : Int) (e : Ending) (w' : World) : Prop := ∃ b n s, e = findE (kn L L.length id) b ∧ MapIs w' Try.prog 3 eInt b n (kn L L.length) s ∧ Below w.heap.size w w'
set_option maxRecDepth 100000 in
set_option maxHeartbeats 8000000 in
theorem find_bad {w : World} {v : Value} {L : List Lv} (h : LotsIn w v L) (id : Int) (h0 : chkL L ≠ 0) : Calls Try.prog 32 #[v, .int .i64 id] w fun e w' => e = .returned (.tuple #[.map none, .int .i64 0, .int .i64 (chkL L)]) ∧ Below w.heap.size w w' := by
  have hck := fun w h => lcheck_any (w := w) (v := v) (L := L) h
  have h0' : (chkL L != 0) = true := by simpa using h0
  clear h0
  generalize chkL L = E at *
  go_enter Try.func32, Try.ntmps32
  go_wp2_with fail
  refine (hck _ h).mono ?_
  rintro e w1 ⟨rfl, hb1⟩
  go_wp2_with fail
  refine bodyPost_ret (v := .tuple #[.map none, .int .i64 0, .int .i64 E]) (by simp only [results, Try.results32]; go_simp; first | done | rfl) rfl ?_
  exact ⟨rfl, hb1⟩
set_option maxRecDepth 100000 in
set_option maxHeartbeats 8000000 in
theorem find_any {w : World} {v : Value} {L : List Lv} (h : LotsIn w v L) (id : Int) (hid : (Lit.int .i64 id).wf = true) (h0 : chkL L = 0) : Calls Try.prog 32 #[v, .int .i64 id] w (findOut w L id) := by
  have hck := fun w h => lcheck_any (w := w) (v := v) (L := L) h
  have hfew : L.length ≤ 512 := by
    unfold chkL at h0
    split at h0
    · omega
    · omega
  rw [h0] at hck
  obtain ⟨oa, cap, hv, p1, p2, _, hp5⟩ := h.row.at_
  unfold maxLen at p2
  subst hv
  have HP := Lib.hid hp5
  have HI := Lib.hid h
  clear hp5 h0
  have hmm := @run_makeMap Try.prog
  go_enter Try.func32, Try.ntmps32
  go_wp2_with fail
  refine (hck _ h).mono ?_
  rintro e w1 ⟨rfl, hb1⟩
  have hz1 := hb1.size
  clear h hck
  go_wp2_with fail
  clear hmm
  go_loopw [21] (fun i wr => F1Rel w1 L i wr) (fun i _ => (L.length - intOf i).toNat)
  case atStart => exact ⟨0, Nat.zero_le _, rfl, (Below.refl _ _).alloc (Nat.le_refl _) _, MapIs.made _ _ _ _⟩
  case round =>
    obtain ⟨k, hk, rfl, hbr, hmp⟩ := hrel
    have hwr := hbr.size
    have hball := hb1.trans (hbr.mono hz1)
    by_cases hkl : k < L.length
    · have hki : (k : Int) < L.length := by omega
      have hk0 : (0 : Int) ≤ k := by omega
      have hx := getD_of (d := lv0) hkl
      have hxm := List.mem_of_getElem? hx
      obtain ⟨ob, oo, rfl, hoz, hoc⟩ := HP.out (by rintro rfl; simp at hkl)
      have ec := hoc k _ hx
      have q : ∀ j, wr.cell? ⟨ob, j, none⟩ = w.cell? ⟨ob, j, none⟩ := fun j => hball.cell (p := ⟨ob, j, none⟩) hoz
      have hpr := HI.out.part _ hxm
      have hwi := HI.out.id _ hxm
      have hKN : kn L (k + 1) = fun y => if y = (L.getD k lv0).id then some (k : Int) else kn L k y := rfl
      have hKS : ks L (k + 1) = if (kn L k (L.getD k lv0).id).isSome = true then ks L k else ks L k + 1 := rfl
      have HKN := Lib.hid hKN
      have HKS := Lib.hid hKS
      clear hx hxm hoc hKN hKS
      generalize L.getD k lv0 = x at *
      have e0 : World.cell? wr ⟨ob, oo + k * 5, none⟩ = some (.int .i64 x.id) := (q _).trans (ec 0 (by omega))
      have e1 : World.cell? wr ⟨ob, oo + k * 5 + 1, none⟩ = some (.int .i64 x.mat) := (q _).trans (ec 1 (by omega))
      have e2 : World.cell? wr ⟨ob, oo + k * 5 + 2, none⟩ = some (.int .i64 x.lo) := (q _).trans (ec 2 (by omega))
      have e3 : World.cell? wr ⟨ob, oo + k * 5 + 3, none⟩ = some (.int .i64 x.hi) := (q _).trans (ec 3 (by omega))
      have e4 : World.cell? wr ⟨ob, oo + k * 5 + 4, none⟩ = some (x.pv) := (q _).trans (ec 4 (by omega))
      clear ec q
      obtain ⟨xi, xm, xl, xh, xv, ps⟩ := x
      dsimp only at *
      obtain ⟨pa, pc, hpv, r1, r2, _, _⟩ := hpr.at_
      subst hpv
      unfold maxLen at r2
      clear hpr
      have hbx : Below wr.heap.size wr (wr.alloc (.cells #[.int .i64 xi, .int .i64 xm, .int .i64 xl, .int .i64 xh, .slice pa ps.length pc] 33)) := by repeat (first | (with_reducible exact Below.refl _ _) | (with_reducible assumption) | (with_reducible refine Below.drew ?_) | ((with_reducible refine Below.alloc ?_ ?_ _); rotate_left; (first | (with_reducible exact Nat.zero_le _) | (with_reducible exact Nat.le_refl _) | omega | (dsimp only; omega) | (simp only [World.size_alloc, World.size_setCell, World.size_drew]; omega))) | ((with_reducible refine Below.setCell ?_ ?_ _); rotate_left; (first | (with_reducible exact Nat.zero_le _) | (with_reducible exact Nat.le_refl _) | omega | (dsimp only; omega) | (simp only [World.size_alloc, World.size_setCell, World.size_drew]; omega))))
      have hmz := hmp.step hbx
      have hbz := hbr.trans (hbx.mono hwr)
      have hkm : k < maxLen := by unfold maxLen; omega
      go_wp2_with (at_mapUpdate; refine wpList_update_map rfl _ _ _ 54 rfl 3 Try.underlying3 Try.underlying54 rfl hmz hkm _ (k : Int) rfl rfl hwi ?_; intro w6 hm6 hg6)
      have hb6 := Below.grown hbz hg6 hbz.size (fun j hj => by cases hj; exact Nat.le_refl _)
      clear hg6
      go_roundw
      case rel => exact ⟨k + 1, hkl, by simp, hb6, by rw [HKN.out, HKS.out]; exact hm6⟩
      case measure => simp [intOf]; omega
    · obtain rfl : k = L.length := by omega
      cases hk : kn L L.length id with
      | none =>
        have HK := Lib.hid hk
        have hks : (kn L L.length id).isSome = false := by rw [hk]; rfl
        clear hk
        go_wp2_with (at_lookup; refine wpList_lookup_map_ok rfl _ _ 54 rfl 3 Try.underlying3 Try.underlying54 0 (zeroI _) rfl hmp _ rfl hid ?_)
        refine bodyPost_ret (v := .tuple #[.map none, .int .i64 0, .int .i64 7]) (by simp only [results, Try.results32]; go_simp; first | done | rfl) rfl ?_
        exact ⟨_, _, _, by rw [HK.out]; rfl, hmp, hball⟩
      | some i =>
        have HK := Lib.hid hk
        have hks : (kn L L.length id).isSome = true := by rw [hk]; rfl
        clear hk
        go_wp2_with (at_lookup; refine wpList_lookup_map_ok rfl _ _ 54 rfl 3 Try.underlying3 Try.underlying54 0 (zeroI _) rfl hmp _ rfl hid ?_; rw [HK.out]; show wpList _ _ _ _ (Act.put _ _ (.tuple #[.int .i64 i, .bool true])) _)
        refine bodyPost_ret (v := .tuple #[.map (some w1.heap.size), .int .i64 i, .int .i64 0]) (by simp only [results, Try.results32]; go_simp; first | done | rfl) rfl ?_
        exact ⟨_, _, _, by rw [HK.out]; rfl, hmp, hball⟩

/-- What is left of a lot from which t was taken. -/
def restS (x : Lv) (t : Sp) : Sp := ⟨if x.lo - t.hi < 0 then 0 else x.lo - t.hi, x.hi - t.lo⟩
theorem rest_any (x : Lv) (t : Sp) (w : World) {pa : Option Addr} {pc : Nat} (hpv : x.pv = .slice pa x.parts.length pc) (h1 : 0 ≤ x.lo ∧ x.lo ≤ 70368744177664 ∧ 0 ≤ x.hi ∧ x.hi ≤ 70368744177664) (h2 : 0 ≤ t.lo ∧ t.lo ≤ t.hi ∧ t.hi ≤ 288230376151711744) :
    Calls Try.prog 33 #[.agg #[.int .i64 (x).id, .int .i64 (x).mat, .int .i64 (x).lo, .int .i64 (x).hi, (x).pv], .agg #[.int .i64 (t).lo, .int .i64 (t).hi]] w fun e w' => e = .returned (.agg #[.int .i64 (restS x t).lo, .int .i64 (restS x t).hi]) ∧ Below w.heap.size w w' := by
  obtain ⟨xi, xm, xl, xh, xv, ps⟩ := x
  dsimp only at *
  subst hpv
  obtain ⟨a1, a2, a3, a4⟩ := h1
  obtain ⟨b1, b2, b3⟩ := h2
  have hR : restS ⟨xi, xm, xl, xh, .slice pa ps.length pc, ps⟩ t = ⟨if xl - t.hi < 0 then 0 else xl - t.hi, xh - t.lo⟩ := rfl
  generalize restS ⟨xi, xm, xl, xh, .slice pa ps.length pc, ps⟩ t = R at *
  have HR := Lib.hid hR
  clear hR
  rcases (show xl - t.hi < 0 ∨ xl - t.hi = 0 ∨ 0 < xl - t.hi by omega) with d1 | d1 | d1
  all_goals (
    go_enter Try.func33, Try.ntmps33
    go_wp2_with fail
    refine bodyPost_ret (v := .agg #[.int .i64 (R).lo, .int .i64 (R).hi]) (by simp only [results, Try.results33]; go_simp; rw [HR.out]; first | done | rfl | (dsimp only; split <;> first | rfl | omega | (congr 3; omega)) | (simp; omega)) rfl ⟨rfl, ?_⟩
    repeat (first | (with_reducible exact Below.refl _ _) | (with_reducible assumption) | (with_reducible refine Below.drew ?_) | ((with_reducible refine Below.alloc ?_ ?_ _); rotate_left; (first | (with_reducible exact Nat.zero_le _) | (with_reducible exact Nat.le_refl _) | omega | (dsimp only; omega) | (simp only [World.size_alloc, World.size_setCell, World.size_drew]; omega))) | ((with_reducible refine Below.setCell ?_ ?_ _); rotate_left; (first | (with_reducible exact Nat.zero_le _) | (with_reducible exact Nat.le_refl _) | omega | (dsimp only; omega) | (simp only [World.size_alloc, World.size_setCell, World.size_drew]; omega)))))

end Go.Proofs.Ytpafcdigcpbbeaa
