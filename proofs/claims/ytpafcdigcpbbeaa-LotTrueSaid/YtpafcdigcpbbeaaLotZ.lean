/- Contracts: members of lists, the example of the law. -/
import Derived.Test.YtpafcdigcpbbeaaLotY
namespace Go.Proofs.Ytpafcdigcpbbeaa
set_option linter.unusedVariables false
set_option linter.unusedSimpArgs false
open Go.RowKit

theorem RowIn.of_blk {α : Type} {w : World} {g : Nat} {e : TypeId} {C : Nat} {cs : Array Value} {f : α → List Value} {l : List α} (hf : ∀ a, (f a).length = C) (h : Blk w g e cs) (hc : cs.toList = l.flatMap f) (hm : l.length ≤ maxLen) :
    RowIn w (.slice (some ⟨g, 0, none⟩) l.length l.length) C f l := by
  have hl : (l.flatMap f).length = l.length * C := rowOf_length hf l
  have hs : cs.size = l.length * C := by rw [← hl, ← hc]; simp
  refine RowIn.of_own (base := 0) (e := e) hf ⟨hl, .inr ⟨g, l.length, cs, rfl, Nat.zero_le _, h, Nat.le_refl _, hm, hs, ?_⟩⟩
  rw [hc, List.take_of_length_le (by omega)]
theorem encT_len (p : Pt) : (encT p).length = 3 := rfl
def HsRel (w : World) (a : List Int) (y : Int) (i : Value) (wr : World) : Prop := ∃ k : Nat, k ≤ a.length ∧ i = .int .i64 k ∧ (a.take k).contains y = false ∧ Below w.heap.size w wr
set_option maxHeartbeats 1000000 in
theorem has_any {w : World} {v : Value} {a : List Int} (ha : RowIn w v 1 encI1 a) (y : Int) : Calls Try.prog 24 #[v, .int .i64 y] w fun e w' => e = .returned (.bool (a.contains y)) ∧ Below w.heap.size w w' := by
  obtain ⟨oa, ca, rfl, a1, a2, _, ha5⟩ := ha.at_
  unfold maxLen at a2
  have HA := Lib.hid ha5
  clear ha5 ha
  go_enter Try.func24, Try.ntmps24
  go_wp2_with fail
  go_loopw [9] (fun i wr => HsRel w a y i wr) (fun i _ => (a.length - intOf i).toNat)
  case atStart => exact ⟨0, Nat.zero_le _, rfl, rfl, Below.refl _ _⟩
  case round =>
    obtain ⟨k, hk, rfl, hok, hbr⟩ := hrel
    by_cases hlt : k < a.length
    · have hx := getD_of (d := 0) hlt
      obtain ⟨p, o, rfl, hp, hc⟩ := HA.out (by rintro rfl; simp at hlt)
      have e0 : World.cell? wr ⟨p, o + k, none⟩ = some (.int .i64 (a.getD k 0)) := by
        have := hc k _ hx 0 (by omega)
        rw [Nat.mul_one, Nat.add_zero] at this
        exact (hbr.cell (p := ⟨p, o + k, none⟩) hp).trans this
      have hts : (a.take (k + 1)).contains y = (y == a.getD k 0) := by
        rw [List.take_add_one, hx, List.contains_append, hok]; simp; rfl
      have hmem := List.mem_of_getElem? hx
      clear hx hc hok
      generalize a.getD k 0 = x at *
      have i0 : (0 : Int) ≤ k := by omega
      have i1 : (k : Int) < a.length := by omega
      by_cases hxy : x = y
      · subst hxy
        have hb : (x == x) = true := by simp
        have HT := Lib.hid (show a.contains x = true by simpa using hmem)
        clear hts hmem
        go_wp2_with fail
        go_ret
        exact ⟨by rw [HT.out]; rfl, hbr⟩
      · have hne : (x == y) = false := by simpa using hxy
        have HF := Lib.hid (show (a.take (k + 1)).contains y = false from by rw [hts]; simp; exact fun e => hxy e.symm)
        clear hts hxy hmem
        go_wp2_with fail
        go_roundw
        case rel => exact ⟨k + 1, hlt, by simp, HF.out, hbr⟩
        case measure => simp [intOf]; omega
    · obtain rfl : k = a.length := by omega
      rw [List.take_length] at hok
      have HF := Lib.hid hok
      clear hok
      go_wp2_with fail
      go_ret
      exact ⟨by rw [HF.out]; rfl, hbr⟩
theorem lawmass_any (n : Int) (w : World) : Calls Try.prog 14 #[.int .i64 n] w fun e w' => e = .returned (.agg #[.int .i64 n, .int .i64 n]) ∧ Below w.heap.size w w' := by
  go_enter Try.func14, Try.ntmps14
  go_wp2_with fail
  refine bodyPost_ret (v := .agg #[.int .i64 n, .int .i64 n]) (by simp only [results, Try.results14]; go_simp; first | done | rfl) rfl ⟨rfl, ?_⟩
  repeat (first | (with_reducible exact Below.refl _ _) | (with_reducible assumption) | (with_reducible refine Below.drew ?_) | ((with_reducible refine Below.alloc ?_ ?_ _); rotate_left; (first | (with_reducible exact Nat.zero_le _) | (with_reducible exact Nat.le_refl _) | omega | (dsimp only; omega) | (simp only [World.size_alloc, World.size_setCell, World.size_drew]; omega))) | ((with_reducible refine Below.setCell ?_ ?_ _); rotate_left; (first | (with_reducible exact Nat.zero_le _) | (with_reducible exact Nat.le_refl _) | omega | (dsimp only; omega) | (simp only [World.size_alloc, World.size_setCell, World.size_drew]; omega))))
/-- The lots of the example. -/
def exL (p q : Nat) (lo hi : Int) : List Lv := [⟨1, 0, 1000, 1000, .slice none 0 0, []⟩, ⟨2, 0, 500, 500, .slice none 0 0, []⟩, ⟨3, 0, lo, hi, .slice (some ⟨p, 0, none⟩) 2 2, [⟨1, 400, 400⟩, ⟨2, 200, 200⟩]⟩, ⟨4, 1, 100, 100, .slice (some ⟨q, 0, none⟩) 1 1, [⟨3, 100, 100⟩]⟩]
def exC (p q : Nat) (lo hi : Int) : Array Value := #[.int .i64 1, .int .i64 0, .int .i64 1000, .int .i64 1000, .slice none 0 0, .int .i64 2, .int .i64 0, .int .i64 500, .int .i64 500, .slice none 0 0, .int .i64 3, .int .i64 0, .int .i64 lo, .int .i64 hi, .slice (some ⟨p, 0, none⟩) 2 2, .int .i64 4, .int .i64 1, .int .i64 100, .int .i64 100, .slice (some ⟨q, 0, none⟩) 1 1]
theorem exL_in {w : World} {g p q : Nat} {lo hi : Int} (h : Blk w g 33 (exC p q lo hi)) (h1 : Blk w p 35 #[.int .i64 1, .int .i64 400, .int .i64 400, .int .i64 2, .int .i64 200, .int .i64 200]) (h2 : Blk w q 35 #[.int .i64 3, .int .i64 100, .int .i64 100]) : LotsIn w (.slice (some ⟨g, 0, none⟩) 4 4) (exL p q lo hi) := by
  refine ⟨RowIn.of_blk (l := exL p q lo hi) encV_len h rfl (by simp [exL, maxLen]), fun x hx => ?_, fun x hx => ?_, fun x hx => ?_⟩
  · simp [exL] at hx
    rcases hx with rfl | rfl | rfl | rfl
    · exact .nil _ _ _
    · exact .nil _ _ _
    · exact RowIn.of_blk (l := [⟨1, 400, 400⟩, ⟨2, 200, 200⟩]) encT_len h1 rfl (by decide)
    · exact RowIn.of_blk (l := [⟨3, 100, 100⟩]) encT_len h2 rfl (by decide)
  · simp [exL] at hx
    rcases hx with rfl | rfl | rfl | rfl <;> rfl
  · simp [exL] at hx
    rcases hx with rfl | rfl | rfl | rfl <;> (intro p hp; simp at hp) <;> (first | (rcases hp with rfl | rfl <;> decide) | (subst hp; decide))
def exOut (w : World) (e : Ending) (w' : World) : Prop := ∃ g p q, e = .returned (.slice (some ⟨g, 0, none⟩) 4 4) ∧ Blk w' g 33 (exC p q 600 600) ∧ Blk w' p 35 #[.int .i64 1, .int .i64 400, .int .i64 400, .int .i64 2, .int .i64 200, .int .i64 200] ∧ Blk w' q 35 #[.int .i64 3, .int .i64 100, .int .i64 100] ∧ g ≠ p ∧ g ≠ q ∧ w.heap.size ≤ g ∧ Below w.heap.size w w'
set_option maxRecDepth 100000 in
set_option maxHeartbeats 8000000 in
theorem example_any (w : World) : Calls Try.prog 25 #[] w (exOut w) := by
  have hm := lawmass_any
  go_enter Try.func25, Try.ntmps25
  go_wp2_with fail
  refine (hm _ _).mono ?_
  rintro e w1 ⟨rfl, hb1⟩
  go_wp2_with fail
  refine (hm _ _).mono ?_
  rintro e w2 ⟨rfl, hb2⟩
  go_wp2_with fail
  refine (hm _ _).mono ?_
  rintro e w3 ⟨rfl, hb3⟩
  go_wp2_with fail
  refine (hm _ _).mono ?_
  rintro e w4 ⟨rfl, hb4⟩
  go_wp2_with fail
  refine (hm _ _).mono ?_
  rintro e w5 ⟨rfl, hb5⟩
  have hb := (((hb1.trans (hb2.mono hb1.size)).trans (hb3.mono (hb1.trans (hb2.mono hb1.size)).size)))
  have hs := hb.size
  have h45 := hb4.trans (hb5.mono hb4.size)
  replace hb := hb.trans (h45.mono hs)
  clear hb1 hb2 hb3 hb4 hb5 h45 hs
  have BP := Blk.new w5 35 #[.int .i64 1, .int .i64 400, .int .i64 400, .int .i64 2, .int .i64 200, .int .i64 200]
  have h5 := hb.size
  have hbp := hb.alloc h5 (.cells #[.int .i64 1, .int .i64 400, .int .i64 400, .int .i64 2, .int .i64 200, .int .i64 200] 35)
  clear hb
  go_wp2_with fail
  refine (hm _ _).mono ?_
  rintro e w6 ⟨rfl, hb6⟩
  replace BP := BP.step hb6
  replace hbp := hbp.trans (hb6.mono hbp.size)
  have hl6 := BP.lt
  clear hb6
  go_wp2_with fail
  refine (hm _ _).mono ?_
  rintro e w7 ⟨rfl, hb7⟩
  replace BP := BP.step hb7
  replace hbp := hbp.trans (hb7.mono hbp.size)
  have hl7 := BP.lt
  have h7 := hbp.size
  clear hb7 hm
  go_wp2_with fail
  refine bodyPost_ret (v := .slice (some ⟨w7.heap.size + 1, 0, none⟩) 4 4) (by simp only [results, Try.results25]; go_simp; first | done | rfl) rfl ?_
  refine ⟨w7.heap.size + 1, w5.heap.size, w7.heap.size, rfl, ?_, (BP.alloc _).alloc _, (Blk.new w7 35 _).alloc _, by omega, by omega, by omega, (hbp.alloc h7 _).alloc (by simp; omega) _⟩
  have := Blk.new (w7.alloc (.cells #[.int .i64 3, .int .i64 100, .int .i64 100] 35)) 33 (exC w5.heap.size w7.heap.size 600 600)
  rwa [World.size_alloc] at this

end Go.Proofs.Ytpafcdigcpbbeaa
