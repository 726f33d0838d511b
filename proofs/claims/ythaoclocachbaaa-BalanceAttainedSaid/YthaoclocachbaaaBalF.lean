/- Contract: a push in the network: the search. -/
import Derived.Test.YthaoclocachbaaaBalE
import Derived.Test.YthaoclocachbaaaPushP
import Derived.Deep.DeepCutAuto
import Derived.Deep.CutBlock
import Derived.Deep.LoopGhost
import Derived.BigQuiet
import Derived.WalkMore
import Derived.StillTail
namespace Go.Proofs.Ythaoclocachbaaa
set_option linter.unusedVariables false
set_option linter.unusedSimpArgs false
open Go.RowKit

def InitRel (w : World) (gb : Nat) (i : Value) (wr : World) : Prop := ∃ k : Nat, k ≤ 11 ∧ i = .int .i64 k ∧ Below w.heap.size w wr ∧ Blk wr gb 65 (ints (befL fun x => if x < k then -1 else 0))
/-- Behind the search: the nodes that were reached. -/
def Found (w : World) (gb N : Nat) (R : Nat → Nat → Int) (s t : Nat) (wx : World) : Prop :=
  ∃ B : Nat → Int, Below w.heap.size w wx ∧ Blk wx gb 65 (ints (befL B)) ∧ (∃ rk, Tree N R s (Dn B) (Bn B) rk) ∧ (∀ x, x < 11 → B x = -1 ∨ (0 ≤ B x ∧ B x < N)) ∧
    (Dn B t = true ∨ (Dn B t = false ∧ ∀ x, Dn B x = true → ∀ v, v < N → Dn B v = false → R x v = 0))
def OutRelP (w : World) (gb N : Nat) (R : Nat → Nat → Int) (s t : Nat) (m : Nat) (v : Value) (wr : World) : Prop :=
  ∃ (g : Nat) (B : Nat → Int) (Q : List Nat), Below w.heap.size w wr ∧ Blk wr gb 65 (ints (befL B)) ∧ gb ≠ g ∧ QRow wr (w.heap.size + 1) g v (Q.map fun x : Nat => (x : Int)) ∧ BfsO N R s t B Q ∧ 2 * notIn (Dn B) N + Q.length = m
def InRelP (w : World) (gb N : Nat) (R : Nat → Nat → Int) (s t : Nat) (c : Nat) (M : Nat) (m : Nat) (v i : Value) (wr : World) : Prop :=
  ∃ (g j : Nat) (B : Nat → Int) (Q : List Nat), j ≤ N ∧ i = .int .i64 j ∧ Below w.heap.size w wr ∧ Blk wr gb 65 (ints (befL B)) ∧ gb ≠ g ∧ QRow wr (w.heap.size + 1) g v (Q.map fun x : Nat => (x : Int)) ∧ BfsI N R s t B Q c j ∧ 2 * notIn (Dn B) N + Q.length < M ∧ N - j = m
/-- What a push does: nothing, and some set of nodes holds the source, not the sink, and nothing leads on from it; or it pushes d. -/
def PushOut (w : World) (nb n : Nat) (R cap : Nat → Nat → Int) (F d0 : Int) (e : Ending) (w' : World) : Prop :=
  ∃ d : Int, e = .returned (.int .i64 d) ∧ ((d = 0 ∧ Below w.heap.size w w' ∧ ∃ S : Nat → Bool, S (n + 1) = true ∧ S (n + 2) = false ∧ ∀ u v, u < n + 3 → v < n + 3 → S u = true → S v = false → R u v = 0) ∨
    (0 < d ∧ d ≤ d0 ∧ w.grownBy w' (some nb) ∧ ∃ R', Blk w' nb 68 (ints (netL (n + 3 : Nat) R')) ∧ ResOk n cap R' (F + d)))
def MinRel (w : World) (gb : Nat) (B : Nat → Int) (R : Nat → Nat → Int) (t q : Nat) (d0 : Int) (k : Nat) (mo nn : Value) (wr : World) : Prop :=
  ∃ (i : Nat) (m : Int), i ≤ q ∧ q - i = k ∧ mo = .int .i64 m ∧ nn = .int .i64 (itr (Bn B) t i : Nat) ∧ 0 < m ∧ m ≤ d0 ∧ (∀ j, j < i → m ≤ R (itr (Bn B) t (j + 1)) (itr (Bn B) t j)) ∧ Below w.heap.size w wr ∧ Blk wr gb 65 (ints (befL B))
def AugRel (w : World) (nb gb s : Nat) (B : Nat → Int) (R : Nat → Nat → Int) (t q : Nat) (d : Int) (k : Nat) (nn : Value) (wr : World) : Prop :=
  ∃ i : Nat, i ≤ q ∧ q - i = k ∧ nn = .int .i64 (itr (Bn B) t i : Nat) ∧ w.grownBy wr (some nb) ∧ Blk wr gb 65 (ints (befL B)) ∧ Blk wr nb 68 (ints (netL (s + 2 : Nat) (pushR R (Bn B) t d i)))
theorem grown_trans {a b c : World} {row : Option Nat} (h : a.grownBy b row) (k : Below b.heap.size b c) : a.grownBy c row :=
  ⟨k.os.trans h.os, k.tape.trans h.tape, k.output.trans h.output, Nat.le_trans h.size k.size, fun i hi hne => (k.block i (Nat.lt_of_lt_of_le hi h.size)).trans (h.block i hi hne)⟩
theorem grown_store {a b : World} {nb o : Nat} (h : a.grownBy b (some nb)) (v : Value) : a.grownBy (b.setCell ⟨nb, o, none⟩ v) (some nb) :=
  ⟨h.os, h.tape, h.output, by rw [World.size_setCell]; exact h.size, fun i hi hne => (Below.heap_setCell b ⟨nb, o, none⟩ v i (fun e => hne (by rw [e]))).trans (h.block i hi hne)⟩
theorem befL_congr {B C : Nat → Int} (h : ∀ x, x < 11 → B x = C x) : befL B = befL C := by
  unfold befL
  refine List.map_congr_left fun x hx => h x (List.mem_range.1 hx)
set_option maxRecDepth 100000 in
set_option maxHeartbeats 8000000 in
theorem push_any {w : World} {nb : Nat} (n : Nat) (R : Nat → Nat → Int) (d0 : Int) (hn : n + 3 ≤ 11) (hN : Blk w nb 68 (ints (netL (n + 3 : Nat) R))) (hR : ∀ u v, u < n + 3 → v < n + 3 → 0 ≤ R u v ∧ R u v ≤ 1152921504606846976) (hd : 0 < d0) (hd2 : d0 ≤ 1152921504606846976)
    {cap : Nat → Nat → Int} {F : Int} (hres : ResOk n cap R F) (hcap : ∀ u v, u < n + 3 → v < n + 3 → cap u v + cap v u ≤ 1152921504606846976) :
    Calls Try.prog 36 #[.pointer (some ⟨nb, 0, none⟩), .int .i64 ((n + 1 : Nat) : Int), .int .i64 ((n + 2 : Nat) : Int), .int .i64 d0] w (PushOut w nb n R cap F d0) := by
  have HRES := Lib.hid hres
  have HCAP := Lib.hid hcap
  clear hres hcap
  have hnw := hN.lt
  have hb0 : Below w.heap.size w (w.alloc (.cells #[.int .i64 0, .int .i64 0, .int .i64 0, .int .i64 0, .int .i64 0, .int .i64 0, .int .i64 0, .int .i64 0, .int .i64 0, .int .i64 0, .int .i64 0] 65)) := by repeat (first | (with_reducible exact Below.refl _ _) | (with_reducible assumption) | (with_reducible refine Below.drew ?_) | ((with_reducible refine Below.alloc ?_ ?_ _); rotate_left; (first | (with_reducible exact Nat.zero_le _) | (with_reducible exact Nat.le_refl _) | omega | (dsimp only; omega) | (simp only [World.size_alloc, World.size_setCell, World.size_drew]; omega))) | ((with_reducible refine Below.setCell ?_ ?_ _); rotate_left; (first | (with_reducible exact Nat.zero_le _) | (with_reducible exact Nat.le_refl _) | omega | (dsimp only; omega) | (simp only [World.size_alloc, World.size_setCell, World.size_drew]; omega))))
  have B0 : Blk (w.alloc (.cells #[.int .i64 0, .int .i64 0, .int .i64 0, .int .i64 0, .int .i64 0, .int .i64 0, .int .i64 0, .int .i64 0, .int .i64 0, .int .i64 0, .int .i64 0] 65)) w.heap.size 65 (ints (befL fun x => if x < 0 then -1 else 0)) := Blk.new w 65 #[.int .i64 0, .int .i64 0, .int .i64 0, .int .i64 0, .int .i64 0, .int .i64 0, .int .i64 0, .int .i64 0, .int .i64 0, .int .i64 0, .int .i64 0]
  go_enter Try.func36, Try.ntmps36
  go_wp2_with fail
  go_step3
  go_wp2_with fail
  go_loopw [16] (fun i wr => InitRel w w.heap.size i wr) (fun i _ => (11 - intOf i).toNat)
  case atStart => exact ⟨0, Nat.zero_le _, rfl, hb0, B0⟩
  case round =>
    clear hb0 B0
    obtain ⟨k, hk, rfl, hb, BB⟩ := hrel
    have hwz := hb.size
    by_cases hlt : k < 11
    · have hk0 : (0 : Int) ≤ k := by omega
      have hk1 : (k : Int) < 11 := by omega
      have cb := BB.geti (befL_get _ hlt)
      have fb := BB.free k
      have lb := BB.lt
      go_wp2_with fail
      go_roundw
      case rel => exact ⟨k + 1, hlt, by simp, hb.setCell (by simp) _, by
        have := BB.seti k (-1)
        rw [befL_set _ hlt] at this
        rw [befL_congr (C := fun i => if i = k then -1 else if i < k then -1 else 0) fun x _ => by (repeat' split) <;> omega]
        exact this⟩
      case measure => simp [intOf]; omega
    · obtain rfl : k = 11 := by omega
      have hs1 : n + 1 < 11 := by omega
      have cb := BB.geti (befL_get _ hs1)
      have fb := BB.free (n + 1)
      have lb := BB.lt
      have h10 : (0 : Int) ≤ ((n + 1 : Nat) : Int) := by omega
      have h11 : ((n + 1 : Nat) : Int) < 11 := by omega
      generalize hs : n + 1 = s at *
      have ht : n + 2 = s + 1 := by omega
      have hN3 : n + 3 = s + 2 := by omega
      rw [ht]
      rw [hN3] at hN hR
      have hs9 : s + 2 ≤ 11 := by omega
      clear hn
      have BQ := Blk.new (wr.setCell ⟨w.heap.size, s, none⟩ (.int .i64 s)) 3 #[.int .i64 s]
      rw [World.size_setCell] at BQ
      have BB2 := (BB.seti s (s : Int)).alloc (.cells #[.int .i64 s] 3)
      rw [befL_set _ hs1, befL_congr (C := setB (fun _ => -1) s s) fun x hx => by unfold setB; rw [if_pos hx]] at BB2
      have hb2 := (hb.setCell (p := ⟨w.heap.size, s, none⟩) (Nat.le_refl _) (.int .i64 s)).alloc (by rw [World.size_setCell]; exact hwz) (.cells #[.int .i64 s] 3)
      have hgq : w.heap.size ≠ wr.heap.size := Nat.ne_of_lt BB.lt
      have hst : BfsO (s + 2) R s (s + 1) (setB (fun _ => -1) s s) [s] := BfsO.start (by omega) (by omega) (by omega)
      go_wp2_with fail
      have hQ : QRow ((wr.setCell ⟨w.heap.size, s, none⟩ (.int .i64 s)).alloc (.cells #[.int .i64 s] 3)) (w.heap.size + 1) wr.heap.size (.slice (some ⟨wr.heap.size, 0, none⟩) 1 1) ([s].map fun x : Nat => (x : Int)) :=
        ⟨0, 1, #[.int .i64 s], rfl, by omega, BQ, by simp, by simp, by simp [maxLen], fun i x hx => by
          have hi : i = 0 := by have := (List.getElem?_eq_some_iff.1 hx).1; simp at this; omega
          subst hi
          simp at hx
          subst hx
          rfl⟩
      generalize (wr.setCell ⟨w.heap.size, s, none⟩ (.int .i64 s)).alloc (.cells #[.int .i64 s] 3) = wq at *
      generalize wr.heap.size = gq at *
      clear BB hb hwz hk hlt BQ cb fb lb h10 h11
      go_step3
      go_upto_block 2 with fail
      go_cut [] (fun wx => Found w w.heap.size (s + 2) R s (s + 1) wx)
      case first =>
        go_wp2_with fail
        go_loopg [11] (2 * notIn (Dn (setB (fun _ => -1) s s)) (s + 2) + [s].length) (fun m v wr => OutRelP w w.heap.size (s + 2) R s (s + 1) m v wr)
        case atStart => exact ⟨gq, _, [s], hb2, BB2, hgq, hQ, hst, rfl⟩
        case round =>
          clear hb2 BB2 hgq hQ hst
          obtain ⟨g, B, Q, hb, BB, hgg, hQ, hO, hm⟩ := hrel
          have HO := Lib.hid hO
          have HM := Lib.hid hm
          clear hO hm
          have hwz := hb.size
          have lb := BB.lt
          obtain ⟨off, cap, cur, rfl, q2, q3, q4, q5, q6, q7⟩ := id hQ
          have lq := q3.lt
          have HQ := Lib.hid hQ
          clear hQ
          cases Q with
          | nil =>
            go_wp2_with fail
            go_meet
            exact ⟨B, hb, BB, HO.out.tree, HO.out.rng, .inr ⟨HO.out.goal, fun x hx => (HO.out.done x hx).resolve_left (by simp)⟩⟩
          | cons c Q =>
            obtain ⟨hI, hf⟩ := HO.out.pop
            have hcD := hI.cur
            obtain ⟨rk, hT⟩ := hI.tree
            have hc11 := hT.lt c hcD
            have HI := Lib.hid hI
            clear hI hcD hT rk
            have e0 : World.cell? wr ⟨g, off, none⟩ = some (.int .i64 c) := (q3.cell _).trans (q7 0 c rfl)
            have en : World.cell? wr ⟨nb, 0, none⟩ = some (.int .i64 ((s + 2 : Nat) : Int)) := (hb.cell (p := ⟨nb, 0, none⟩) hnw).trans ((hN.cell 0).trans (ints_get (netL_zero _ _)))
            have hQ2 := HQ.out.pop
            simp only [List.map_cons, List.length_cons, List.length_map] at q5 hQ2
            have hq9 : Q.length < gk := by have := HM.out; simp at this; omega
            have hMM : 2 * notIn (Dn B) (s + 2) + Q.length < gk := by have := HM.out; simp at this; omega
            by_cases hcap : cap = 1
            · subst hcap
              rw [if_pos rfl] at hQ2
              have hQ0 : Q.length = 0 := by omega
              simp only [List.map_cons, List.length_cons, List.length_map, hQ0, Nat.zero_add]
              rw [hQ0] at hQ2
              clear hQ0
              replace hQ2 : QRow wr (w.heap.size + 1) g (.slice (some ⟨g, off, none⟩) 0 0) (Q.map fun x : Nat => (x : Int)) := hQ2
              go_wp2_with fail
              go_loopg [11, 39] (s + 2) (fun m v i wr => InRelP w w.heap.size (s + 2) R s (s + 1) c gk m v i wr)
              case atStart => exact ⟨g, 0, B, Q, Nat.zero_le _, rfl, hb, BB, hgg, hQ2, HI.out, hMM, rfl⟩
              case round =>
                clear hb BB hgg hQ2 hMM e0 en q2 q3 q4 q5 q6 q7 lq hf hq9 HQ HO HM
                clear HI
                obtain ⟨g, j, B, Q, hj, rfl, hb, BB, hgg, hQ, hI, hMM, hm⟩ := hrel
                have HI := Lib.hid hI
                have HMM := Lib.hid hMM
                have HM := Lib.hid hm
                have hQl : Q.length ≤ 11 := by have := hI.few; omega
                clear hI hMM hm
                have hwz := hb.size
                have lb := BB.lt
                by_cases hjt : j < s + 2
                · have hj11 : j < 11 := by omega
                  have hc9 : c < 11 := by omega
                  have cb := BB.geti (befL_get B hj11)
                  have fb := BB.free j
                  have cn : World.cell? wr ⟨nb, 1 + c * 11 + j, none⟩ = some (.int .i64 (R c j)) := (hb.cell (p := ⟨nb, 1 + c * 11 + j, none⟩) hnw).trans ((hN.cell _).trans (ints_get (netL_get _ R hc9 hj11)))
                  have hj0 : (0 : Int) ≤ j := by omega
                  have hj1 : (j : Int) < 11 := by omega
                  have hc0 : (0 : Int) ≤ c := by omega
                  have hc1' : (c : Int) < 11 := by omega
                  have hjs : (j : Int) < ((s + 2 : Nat) : Int) := by omega
                  by_cases hBj : 0 ≤ B j
                  · go_wp2_with fail
                    go_roundg (s + 2 - (j + 1))
                    case measure => have := HM.out; omega
                    case rel => exact ⟨g, j + 1, B, Q, hjt, by simp, hb, BB, hgg, hQ, HI.out.skip (.inl ⟨hBj, hj11⟩), HMM.out, rfl⟩
                  · by_cases hRz : R c j = 0
                    · have hRb : (R c j == 0) = true := by simpa using hRz
                      go_wp2_with fail
                      go_roundg (s + 2 - (j + 1))
                      case measure => have := HM.out; omega
                      case rel => exact ⟨g, j + 1, B, Q, hjt, by simp, hb, BB, hgg, hQ, HI.out.skip (.inr hRz), HMM.out, rfl⟩
                    · have hRb : (R c j == 0) = false := by simpa using hRz
                      have hRp : 0 < R c j := by have := (hR c j (by omega) hjt).1; omega
                      clear hRz
                      by_cases hje : j = s + 1
                      · subst hje
                        obtain ⟨u1, u2, u3, u4⟩ := HI.out.found hs9 hjt (by omega) hRp
                        have hbs := befL_set B hj11 (c : Int)
                        have BBs := BB.seti (s + 1) (c : Int)
                        rw [hbs] at BBs
                        have HU := Lib.hid (And.intro u1 (And.intro u2 u3))
                        clear u1 u2 u3 u4 hbs
                        go_wp2_with fail
                        go_meet
                        exact ⟨setB B (s + 1) c, hb.setCell (Nat.le_refl _) _, BBs, HU.out.1, HU.out.2.2, .inl HU.out.2.1⟩
                      · have hje1 : ((j : Int) == ((s + 1 : Nat) : Int)) = false := by rw [beq_eq_false_iff_ne]; omega
                        have hje2 : (j == s + 1) = false := by rw [beq_eq_false_iff_ne]; exact hje
                        obtain ⟨u1, u4⟩ := HI.out.grow hs9 hjt (by omega) hRp hje
                        have hbs := befL_set B hj11 (c : Int)
                        have BBs := (BB.seti j (c : Int)).alloc (.cells #[.int .i64 j] 3)
                        rw [hbs] at BBs
                        have hbx := (hb.setCell (p := ⟨w.heap.size, j, none⟩) (Nat.le_refl _) (.int .i64 c)).alloc (by rw [World.size_setCell]; exact hwz) (.cells #[.int .i64 j] 3)
                        have hQx := hQ.kept (w' := (wr.setCell ⟨w.heap.size, j, none⟩ (.int .i64 c)).alloc (.cells #[.int .i64 j] 3)) fun cs h => (h.far (p := ⟨w.heap.size, j, none⟩) (fun e => hgg e.symm) _).alloc _
                        have cx : World.cell? ((wr.setCell ⟨w.heap.size, j, none⟩ (.int .i64 c)).alloc (.cells #[.int .i64 j] 3)) ⟨wr.heap.size, 0, none⟩ = some (.int .i64 j) := by
                          have := (Blk.new (wr.setCell ⟨w.heap.size, j, none⟩ (.int .i64 c)) 3 #[.int .i64 j]).cell 0
                          rwa [World.size_setCell] at this
                        have HU := Lib.hid (And.intro u1 u4)
                        clear u1 u4 hbs
                        obtain ⟨off', cap', _, rfl, qb, _⟩ := id hQ
                        go_wp2_with (at_builtin; refine wpList_q rfl _ _ rfl (w.heap.size + 1) g _ (Q.map fun x : Nat => (x : Int)) rfl hQx wr.heap.size rfl j cx (by simp; omega) (by rw [World.size_alloc, World.size_setCell]; omega) ?_; intro v' w' g' hq' hgr hg')
                        go_roundg (s + 2 - (j + 1))
                        case measure => have := HM.out; omega
                        case rel => exact ⟨g', j + 1, setB B j c, Q ++ [j], hjt, by simp, Below.grown hbx hgr (by rw [World.size_alloc, World.size_setCell]; omega) (fun k hk => by cases hk; omega), Blk.grown BBs hgr (fun e => hgg (Option.some.inj e)), by rcases hg' with rfl | h; exact hgg; rw [World.size_alloc, World.size_setCell] at h; omega, by simpa using hq', HU.out.1, by have := HMM.out; have := HU.out.2; simp; omega, rfl⟩
                · obtain rfl : j = s + 2 := by omega
                  go_wp2_with fail
                  go_roundg (2 * notIn (Dn B) (s + 2) + Q.length)
                  case measure => exact HMM.out
                  case rel => exact ⟨g, B, Q, hb, BB, hgg, hQ, HI.out.close, rfl⟩
            · rw [if_neg hcap] at hQ2
              have hc1 : 1 ≤ cap := by omega
              have hc2 : 1 < cap := by omega
              simp only [List.map_cons, List.length_cons, List.length_map]
              go_wp2_with fail
              go_loopg [11, 39] (s + 2) (fun m v i wr => InRelP w w.heap.size (s + 2) R s (s + 1) c gk m v i wr)
              case atStart => exact ⟨g, 0, B, Q, Nat.zero_le _, rfl, hb, BB, hgg, hQ2, HI.out, hMM, rfl⟩
              case round =>
                clear hb BB hgg hQ2 hMM e0 en q2 q3 q4 q5 q6 q7 lq hf hq9 HQ HO HM
                clear HI
                obtain ⟨g, j, B, Q, hj, rfl, hb, BB, hgg, hQ, hI, hMM, hm⟩ := hrel
                have HI := Lib.hid hI
                have HMM := Lib.hid hMM
                have HM := Lib.hid hm
                have hQl : Q.length ≤ 11 := by have := hI.few; omega
                clear hI hMM hm
                have hwz := hb.size
                have lb := BB.lt
                by_cases hjt : j < s + 2
                · have hj11 : j < 11 := by omega
                  have hc9 : c < 11 := by omega
                  have cb := BB.geti (befL_get B hj11)
                  have fb := BB.free j
                  have cn : World.cell? wr ⟨nb, 1 + c * 11 + j, none⟩ = some (.int .i64 (R c j)) := (hb.cell (p := ⟨nb, 1 + c * 11 + j, none⟩) hnw).trans ((hN.cell _).trans (ints_get (netL_get _ R hc9 hj11)))
                  have hj0 : (0 : Int) ≤ j := by omega
                  have hj1 : (j : Int) < 11 := by omega
                  have hc0 : (0 : Int) ≤ c := by omega
                  have hc1' : (c : Int) < 11 := by omega
                  have hjs : (j : Int) < ((s + 2 : Nat) : Int) := by omega
                  by_cases hBj : 0 ≤ B j
                  · go_wp2_with fail
                    go_roundg (s + 2 - (j + 1))
                    case measure => have := HM.out; omega
                    case rel => exact ⟨g, j + 1, B, Q, hjt, by simp, hb, BB, hgg, hQ, HI.out.skip (.inl ⟨hBj, hj11⟩), HMM.out, rfl⟩
                  · by_cases hRz : R c j = 0
                    · have hRb : (R c j == 0) = true := by simpa using hRz
                      go_wp2_with fail
                      go_roundg (s + 2 - (j + 1))
                      case measure => have := HM.out; omega
                      case rel => exact ⟨g, j + 1, B, Q, hjt, by simp, hb, BB, hgg, hQ, HI.out.skip (.inr hRz), HMM.out, rfl⟩
                    · have hRb : (R c j == 0) = false := by simpa using hRz
                      have hRp : 0 < R c j := by have := (hR c j (by omega) hjt).1; omega
                      clear hRz
                      by_cases hje : j = s + 1
                      · subst hje
                        obtain ⟨u1, u2, u3, u4⟩ := HI.out.found hs9 hjt (by omega) hRp
                        have hbs := befL_set B hj11 (c : Int)
                        have BBs := BB.seti (s + 1) (c : Int)
                        rw [hbs] at BBs
                        have HU := Lib.hid (And.intro u1 (And.intro u2 u3))
                        clear u1 u2 u3 u4 hbs
                        go_wp2_with fail
                        go_meet
                        exact ⟨setB B (s + 1) c, hb.setCell (Nat.le_refl _) _, BBs, HU.out.1, HU.out.2.2, .inl HU.out.2.1⟩
                      · have hje1 : ((j : Int) == ((s + 1 : Nat) : Int)) = false := by rw [beq_eq_false_iff_ne]; omega
                        have hje2 : (j == s + 1) = false := by rw [beq_eq_false_iff_ne]; exact hje
                        obtain ⟨u1, u4⟩ := HI.out.grow hs9 hjt (by omega) hRp hje
                        have hbs := befL_set B hj11 (c : Int)
                        have BBs := (BB.seti j (c : Int)).alloc (.cells #[.int .i64 j] 3)
                        rw [hbs] at BBs
                        have hbx := (hb.setCell (p := ⟨w.heap.size, j, none⟩) (Nat.le_refl _) (.int .i64 c)).alloc (by rw [World.size_setCell]; exact hwz) (.cells #[.int .i64 j] 3)
                        have hQx := hQ.kept (w' := (wr.setCell ⟨w.heap.size, j, none⟩ (.int .i64 c)).alloc (.cells #[.int .i64 j] 3)) fun cs h => (h.far (p := ⟨w.heap.size, j, none⟩) (fun e => hgg e.symm) _).alloc _
                        have cx : World.cell? ((wr.setCell ⟨w.heap.size, j, none⟩ (.int .i64 c)).alloc (.cells #[.int .i64 j] 3)) ⟨wr.heap.size, 0, none⟩ = some (.int .i64 j) := by
                          have := (Blk.new (wr.setCell ⟨w.heap.size, j, none⟩ (.int .i64 c)) 3 #[.int .i64 j]).cell 0
                          rwa [World.size_setCell] at this
                        have HU := Lib.hid (And.intro u1 u4)
                        clear u1 u4 hbs
                        obtain ⟨off', cap', _, rfl, qb, _⟩ := id hQ
                        go_wp2_with (at_builtin; refine wpList_q rfl _ _ rfl (w.heap.size + 1) g _ (Q.map fun x : Nat => (x : Int)) rfl hQx wr.heap.size rfl j cx (by simp; omega) (by rw [World.size_alloc, World.size_setCell]; omega) ?_; intro v' w' g' hq' hgr hg')
                        go_roundg (s + 2 - (j + 1))
                        case measure => have := HM.out; omega
                        case rel => exact ⟨g', j + 1, setB B j c, Q ++ [j], hjt, by simp, Below.grown hbx hgr (by rw [World.size_alloc, World.size_setCell]; omega) (fun k hk => by cases hk; omega), Blk.grown BBs hgr (fun e => hgg (Option.some.inj e)), by rcases hg' with rfl | h; exact hgg; rw [World.size_alloc, World.size_setCell] at h; omega, by simpa using hq', HU.out.1, by have := HMM.out; have := HU.out.2; simp; omega, rfl⟩
                · obtain rfl : j = s + 2 := by omega
                  go_wp2_with fail
                  go_roundg (2 * notIn (Dn B) (s + 2) + Q.length)
                  case measure => exact HMM.out
                  case rel => exact ⟨g, B, Q, hb, BB, hgg, hQ, HI.out.close, rfl⟩
      case rest =>
        clear hb2 BB2 hgq hQ hst
        obtain ⟨B, hb, BB, hT, hrng, hft⟩ := hcut
        have hwz := hb.size
        have lb := BB.lt
        have ht11 : s + 1 < 11 := by omega
        have ct := BB.geti (befL_get B ht11)
        have ht0 : (0 : Int) ≤ ((s + 1 : Nat) : Int) := by omega
        have ht1 : ((s + 1 : Nat) : Int) < 11 := by omega
        rcases hft with hD | ⟨hD, hcl⟩
        · have hBt : 0 ≤ B (s + 1) := by simp [Dn] at hD; exact hD.2
          obtain ⟨rk, hT⟩ := hT
          obtain ⟨q, hq1, hq2⟩ := hT.way hD
          have hon := fun i hi => hT.on hD hq2 i hi
          have hlt := fun i hi => hT.lt _ (hon i hi)
          have hup := fun i (hi : i < q) => (hT.up _ (hon i (by omega)) (hq2 i hi)).2.2
          have HT := Lib.hid hT
          have HQ1 := Lib.hid hq1
          have HQ2 := Lib.hid hq2
          have HON := Lib.hid hon
          have HLT := Lib.hid hlt
          have HUP := Lib.hid hup
          have hpm : ∀ d : Int, 0 ≤ d → (∀ j, j < q → d ≤ R (itr (Bn B) (s + 1) (j + 1)) (itr (Bn B) (s + 1) j)) → (∀ i, i ≤ q → (∀ u v, u < s + 2 → v < s + 2 → 0 ≤ pushR R (Bn B) (s + 1) d i u v ∧ pushR R (Bn B) (s + 1) d i u v ≤ 1152921504606846976) ∧
              (i < q → pushR R (Bn B) (s + 1) d i (itr (Bn B) (s + 1) (i + 1)) (itr (Bn B) (s + 1) i) = R (itr (Bn B) (s + 1) (i + 1)) (itr (Bn B) (s + 1) i) ∧ itr (Bn B) (s + 1) i ≠ itr (Bn B) (s + 1) (i + 1))) ∧ ResOk n cap (pushR R (Bn B) (s + 1) d q) (F + d) := fun d hd hle => by
            subst hs
            refine ⟨fun i hi => ?_, push_ok HRES.out hT hD hq1 hq2 hd hle⟩
            obtain ⟨k1, k2⟩ := push_mid HRES.out hT hD hq2 hd hle i hi
            refine ⟨fun u v hu hv => ⟨k1.nonneg u v hu hv, ?_⟩, fun hiq => ⟨k2 i (Nat.le_refl _) hiq, hT.inj hD hq2 (Nat.lt_succ_self _) (by omega)⟩⟩
            have a1 := k1.nonneg v u hv hu
            have a2 := k1.sym u v hu hv
            have a3 := HCAP.out u v hu hv
            have a4 : pushR R (Bn B) (n + 2) d i u v ≤ 1152921504606846976 := by omega
            exact a4
          have HPM := Lib.hid hpm
          clear hpm
          clear hT hq1 hq2 hon hlt hup
          go_wp2_with fail
          clear ct
          go_loopg [3, 14] q (fun k mo nn wr => MinRel w w.heap.size B R (s + 1) q d0 k mo nn wr)
          case atStart => exact ⟨0, d0, Nat.zero_le _, rfl, rfl, rfl, hd, Int.le_refl _, fun j hj => absurd hj (Nat.not_lt_zero _), hb, BB⟩
          case round =>
            clear hb BB hwz lb
            obtain ⟨i, m, hi, hk, rfl, rfl, hm0, hmd, hle, hb, BB⟩ := hrel
            have HK := Lib.hid hk
            have HLE := Lib.hid hle
            clear hk hle
            have hwz := hb.size
            have lb := BB.lt
            have hxl := HLT.out i hi
            have hBx : 0 ≤ B (itr (Bn B) (s + 1) i) := by have := HON.out i hi; simp [Dn] at this; exact this.2
            by_cases hiq : i < q
            · have hne := HQ2.out i hiq
              have hpl := HLT.out (i + 1) hiq
              have hBp : B (itr (Bn B) (s + 1) i) = (itr (Bn B) (s + 1) (i + 1) : Nat) := by
                show B (itr (Bn B) (s + 1) i) = ((B (itr (Bn B) (s + 1) i)).toNat : Nat)
                omega
              have hRp := HUP.out i hiq
              have hRm := (hR _ _ hpl hxl).2
              replace hRp : 0 < R (itr (Bn B) (s + 1) (i + 1)) (itr (Bn B) (s + 1) i) := hRp
              generalize hxe : itr (Bn B) (s + 1) i = x at *
              generalize hpe : itr (Bn B) (s + 1) (i + 1) = p at *
              have HXE := Lib.hid hxe
              have HPE := Lib.hid hpe
              have hne1 : ((x : Int) != (s : Int)) = true := by simp; omega
              have hne2 : ((x : Int) == (s : Int)) = false := by rw [beq_eq_false_iff_ne]; omega
              have hne3 : (x == s) = false := by rw [beq_eq_false_iff_ne]; exact hne
              have hne4 : (x != s) = true := by simp [hne]
              have hx11 : x < 11 := by omega
              have hp11 : p < 11 := by omega
              have hx0 : (0 : Int) ≤ x := by omega
              have hx1 : (x : Int) < 11 := by omega
              have hp0 : (0 : Int) ≤ p := by omega
              have hp1 : (p : Int) < 11 := by omega
              have cb := BB.geti (befL_get B hx11)
              rw [hBp] at cb
              clear hxe hpe hBx hBp
              go_wp2_with fail
              have c2 : ∀ y : BW wr, y.w.cell? ⟨w.heap.size, x, none⟩ = some (.int .i64 p) := fun y => (y.cell lb).trans cb
              have c3 : ∀ y : BW wr, y.w.cell? ⟨nb, 1 + p * 11 + x, none⟩ = some (.int .i64 (R p x)) := fun y => ((hb.trans (y.h.mono hwz)).cell (p := ⟨nb, 1 + p * 11 + x, none⟩) hnw).trans ((hN.cell _).trans (ints_get (netL_get _ R hp11 hx11)))
              rcases Int.lt_or_le (R p x) m with hmin | hmin
              all_goals (
                refine wp_region_calm (by kernel_rfl) (by kernel_rfl) ?_
                repeat (go_big_quiet_step (fail))
                first | refine wpQuiet_nil ?_ | skip
                intro w5 hb5
                clear c2 c3
                replace BB := BB.step hb5
                replace cb := (hb5.cell (p := ⟨w.heap.size, x, none⟩) lb).trans cb
                replace hb := hb.trans (hb5.mono hwz)
                go_wp2_with fail
                go_roundg (q - (i + 1))
                case measure => have := HK.out; omega
                case rel => exact ⟨i + 1, _, hiq, rfl, rfl, by rw [HPE.out], by omega, by omega, fun j hj => by
                  by_cases hji : j = i
                  · subst hji; rw [HPE.out, HXE.out]; omega
                  · have := HLE.out j (by omega); omega, hb, BB⟩)
            · have hiq' : q = i := by omega
              subst hiq'
              have hq1 := HQ1.out
              rw [hq1]
              have hne1 : ((s : Int) != (s : Int)) = false := by simp
              clear hxl hBx
              have hpm := HPM.out m (by omega) HLE.out
              have HPM2 := Lib.hid hpm
              clear hpm
              have hg0 : w.grownBy wr (some nb) := ⟨hb.os, hb.tape, hb.output, hb.size, fun k hk _ => hb.block k hk⟩
              have BN0 := hN.step hb
              go_wp2_with fail
              go_loopg [15] q (fun k nn wr => AugRel w nb w.heap.size s B R (s + 1) q m k nn wr)
              case atStart => exact ⟨0, Nat.zero_le _, rfl, rfl, hg0, BB, BN0⟩
              case round =>
                clear hg0 BN0
                obtain ⟨i, hi, hk, rfl, hg, BB, BN⟩ := hrel
                have HK := Lib.hid hk
                clear hk
                have lb := BB.lt
                have ln := BN.lt
                have hnb : nb ≠ w.heap.size := by omega
                have hxl := HLT.out i hi
                have hBx : 0 ≤ B (itr (Bn B) (s + 1) i) := by have := HON.out i hi; simp [Dn] at this; exact this.2
                by_cases hiq : i < q
                · have hne := HQ2.out i hiq
                  have hpl := HLT.out (i + 1) hiq
                  have hBp : B (itr (Bn B) (s + 1) i) = (itr (Bn B) (s + 1) (i + 1) : Nat) := by
                    show B (itr (Bn B) (s + 1) i) = ((B (itr (Bn B) (s + 1) i)).toNat : Nat)
                    omega
                  obtain ⟨hbd, hstp⟩ := HPM2.out.1 i hi
                  obtain ⟨hst1, hst2⟩ := hstp hiq
                  have hle := HLE.out i hiq
                  rw [← hst1] at hle
                  have hb1 := hbd _ _ hpl hxl
                  have hb2 := hbd _ _ hxl hpl
                  have hstep : pushR R (Bn B) (s + 1) m (i + 1) = stepR (pushR R (Bn B) (s + 1) m i) (itr (Bn B) (s + 1) (i + 1)) (itr (Bn B) (s + 1) i) m := rfl
                  have hRM := (hR _ _ hpl hxl).2
                  rw [← hst1] at hRM
                  clear hbd hstp hst1
                  generalize pushR R (Bn B) (s + 1) m i = P at *
                  generalize hxe : itr (Bn B) (s + 1) i = x at *
                  generalize hpe : itr (Bn B) (s + 1) (i + 1) = p at *
                  have HBP := Lib.hid hBp
                  have HXE := Lib.hid hxe
                  have HPE := Lib.hid hpe
                  have hne1 : ((x : Int) != (s : Int)) = true := by simp; omega
                  have hne2 : ((x : Int) == (s : Int)) = false := by rw [beq_eq_false_iff_ne]; omega
                  have hne3 : (x == s) = false := by rw [beq_eq_false_iff_ne]; exact hne
                  have hne4 : (x != s) = true := by simp [hne]
                  have hx11 : x < 11 := by omega
                  have hp11 : p < 11 := by omega
                  have hx0 : (0 : Int) ≤ x := by omega
                  have hx1 : (x : Int) < 11 := by omega
                  have hp0 : (0 : Int) ≤ p := by omega
                  have hp1 : (p : Int) < 11 := by omega
                  have cb := BB.geti (befL_get B hx11)
                  rw [hBp] at cb

                  clear hxe hpe hBx hBp
                  have HST := Lib.hid hstep
                  clear hstep
                  go_wp2_with fail
                  have c2 : ∀ y : BW wr, y.w.cell? ⟨w.heap.size, x, none⟩ = some (.int .i64 p) := fun y => (y.cell lb).trans cb
                  have c3 : ∀ y : BW wr, y.w.cell? ⟨nb, 1 + p * 11 + x, none⟩ = some (.int .i64 (P p x)) := fun y => (y.cell ln).trans (BN.geti (netL_get _ P hp11 hx11))
                  refine wp_region_calm_tail 16 (by kernel_rfl) (by kernel_rfl) ?_
                  simp only [List.take_succ_cons, List.take_zero, List.drop_succ_cons, List.drop_zero]
                  repeat (go_big_quiet_step (fail))
                  first | refine wpQuiet_nil ?_ | skip
                  intro w5 hb5
                  clear c2 c3
                  replace BB := BB.step hb5
                  replace BN := BN.step hb5
                  replace hg := grown_trans hg hb5
                  replace cb := (hb5.cell (p := ⟨w.heap.size, x, none⟩) lb).trans cb
                  clear hb5
                  have cn := BN.geti (netL_get _ P hp11 hx11)
                  have fn := BN.free (1 + p * 11 + x)
                  have lb5 := BB.lt
                  have ln5 := BN.lt
                  go_wp2_with fail
                  clear cn fn lb5 ln5
                  have BN6 := BN.seti (1 + p * 11 + x) (P p x - m)
                  rw [netL_set _ P hp11 hx11] at BN6
                  have BB6 := BB.far (p := ⟨nb, 1 + p * 11 + x, none⟩) (Ne.symm hnb) (.int .i64 (P p x - m))
                  have hg6 := grown_store (o := 1 + p * 11 + x) hg (.int .i64 (P p x - m))
                  clear BN BB hg cb
                  generalize w5.setCell ⟨nb, 1 + p * 11 + x, none⟩ (.int .i64 (P p x - m)) = w6 at *
                  have lb6 := BB6.lt
                  have ln6 := BN6.lt
                  have cb6 := BB6.geti (befL_get B hx11)
                  rw [HBP.out] at cb6
                  have hu : upd P p x (P p x - m) x p = P x p := upd_other _ (fun h => hst2 h.1)
                  have cx6 := BN6.geti (netL_get ((s + 2 : Nat) : Int) (upd P p x (P p x - m)) hx11 hp11)
                  rw [hu] at cx6
                  have c2 : ∀ y : BW w6, y.w.cell? ⟨w.heap.size, x, none⟩ = some (.int .i64 p) := fun y => (y.cell lb6).trans cb6
                  have c3 : ∀ y : BW w6, y.w.cell? ⟨nb, 1 + x * 11 + p, none⟩ = some (.int .i64 (P x p)) := fun y => (y.cell ln6).trans cx6
                  refine wp_region_calm_tail 16 (by kernel_rfl) (by kernel_rfl) ?_
                  simp only [List.take_succ_cons, List.take_zero, List.drop_succ_cons, List.drop_zero]
                  repeat (go_big_quiet_step (fail))
                  first | refine wpQuiet_nil ?_ | skip
                  intro w7 hb7
                  clear c2 c3
                  replace cb6 := (hb7.cell (p := ⟨w.heap.size, x, none⟩) lb6).trans cb6
                  replace cx6 := (hb7.cell (p := ⟨nb, 1 + x * 11 + p, none⟩) ln6).trans cx6
                  have BB7 := BB6.step hb7
                  have BN7 := BN6.step hb7
                  have hg7 := grown_trans hg6 hb7
                  clear hb7 BB6 BN6 hg6 lb6 ln6
                  have fn := BN7.free (1 + x * 11 + p)
                  have lb7 := BB7.lt
                  have ln7 := BN7.lt
                  go_wp2_with fail
                  clear fn lb7 ln7 cx6 cb6
                  have BN8 := BN7.seti (1 + x * 11 + p) (P x p + m)
                  rw [netL_set _ _ hx11 hp11] at BN8
                  go_roundg (q - (i + 1))
                  case measure => have := HK.out; omega
                  case rel => exact ⟨i + 1, hiq, rfl, by rw [HPE.out], grown_store hg7 _, BB7.far (p := ⟨nb, 1 + x * 11 + p, none⟩) (Ne.symm hnb) _, by rw [HST.out]; exact BN8⟩
                · have hiq2 : q = i := by omega
                  subst hiq2
                  have hq2 := HQ1.out
                  rw [hq2]
                  clear hxl hBx
                  go_wp2_with fail
                  rw [Exit.noGoto_ret]
                  go_ret
                  exact ⟨m, rfl, .inr ⟨hm0, hmd, hg, _, by rw [hN3]; exact BN, HPM2.out.2⟩⟩
        · have hBt : B (s + 1) < 0 := by
            rcases hrng (s + 1) ht11 with h | h
            · omega
            · simp [Dn] at hD; omega
          obtain ⟨rk, hT⟩ := hT
          have HT := Lib.hid hT.root
          have HD := Lib.hid hD
          have HC := Lib.hid hcl
          clear hT hD hcl
          go_wp2_with fail
          rw [Exit.noGoto_ret]
          go_ret
          exact ⟨0, rfl, .inl ⟨rfl, hb, Dn B, by rw [hs]; exact HT.out, by rw [ht]; exact HD.out, fun u v hu hv h1 h2 => HC.out u h1 v (by omega) h2⟩⟩

end Go.Proofs.Ythaoclocachbaaa
