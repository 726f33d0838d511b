/- Contract: a list of transfers with one of them fixed. -/
import Derived.Test.YthaoclocachbaaaBalN
import Derived.Test.YthaoclocachbaaaBalR
import Derived.Test.YthaoclocachbaaaBalH
namespace Go.Proofs.Ythaoclocachbaaa
set_option linter.unusedVariables false
set_option linter.unusedSimpArgs false
open Go.RowKit

/-! ### New lists of transfers -/
theorem oneR (m : List Tr) : ∀ u ∈ rowOf encR m, u.oneCell' = true := by
  intro u hu
  simp only [rowOf, List.mem_flatMap] at hu
  obtain ⟨e, _, he⟩ := hu
  simp [encR] at he
  rcases he with rfl | rfl | rfl | rfl <;> rfl
def FxRel (w : World) (L : List Tr) (v i : Value) (wr : World) : Prop := ∃ k : Nat, k ≤ L.length ∧ i = .int .i64 k ∧ Below w.heap.size w wr ∧ wr.ownsRow w.heap.size 43 4 v k (rowOf encR (L.take k))
set_option maxRecDepth 100000 in
set_option maxHeartbeats 8000000 in
theorem fixed_any {w : World} {vl : Value} {l : List Tr} (hl : RowIn w vl 4 encR l) (hlen : l.length ≤ 64) {kn : Nat} {t : Tr} (ht : l[kn]? = some t) (mm : Int) :
    Calls Try.prog 25 #[vl, .int .i64 (kn : Nat), .int .i64 mm] w fun e w' => ∃ v, e = .returned v ∧ RowIn w' v 4 encR (l.set kn (withB t mm mm)) ∧ Below w.heap.size w w' := by
  obtain ⟨ti, hi, hz, hsi, hby⟩ := info_of (P := Try.prog) (t := 43) (z := .agg #[.int .i64 0, .int .i64 0, .int .i64 0, .int .i64 0]) (size := 4) (bytes := 32) (by kernel_rfl)
  obtain ⟨la, cb, rfl, _, _, _, hl5⟩ := hl.at_
  have HL := Lib.hid hl5
  have hkn : kn < l.length := (List.getElem?_eq_some_iff.1 ht).1
  clear hl5 hl
  have hLl : (l.set kn (withB t mm mm)).length = l.length := by simp
  have hself : (l.set kn (withB t mm mm))[kn]? = some (withB t mm mm) := List.getElem?_set_self hkn
  have hoth : ∀ i, kn ≠ i → (l.set kn (withB t mm mm))[i]? = l[i]? := fun i h => List.getElem?_set_ne h
  generalize l.set kn (withB t mm mm) = L at *
  have HLL := Lib.hid hLl
  have HSELF := Lib.hid hself
  have HOTH := Lib.hid hoth
  have HTT := Lib.hid ht
  clear hLl hself hoth ht
  go_enter Try.func25, Try.ntmps25
  go_wp2_with fail
  go_loopw [7, 12] (fun v i wr => FxRel w L v i wr) (fun _ i _ => (l.length - intOf i).toNat)
  case atStart => exact ⟨0, Nat.zero_le _, rfl, Below.refl _ _, ⟨by simp [rowOf], .inl ⟨rfl, rfl⟩⟩⟩
  case round =>
    obtain ⟨j, hj, rfl, hb, own⟩ := hrel
    rw [HLL.out] at hj
    have hsz := hb.size
    by_cases hjt : j < l.length
    · obtain ⟨lb, lo, hlo, hlz, hlc⟩ := HL.out (by rintro rfl; simp at hjt)
      subst hlo
      have hjl : (j : Int) < l.length := by omega
      have hj0 : (0 : Int) ≤ j := by omega
      obtain ⟨x, hx⟩ : ∃ x, l[j]? = some x := ⟨_, List.getElem?_eq_getElem hjt⟩
      have e0 : World.cell? wr ⟨lb, lo + j * 4, none⟩ = some (.int .i64 x.frm) := (hb.cell (p := ⟨lb, lo + j * 4, none⟩) hlz).trans (hlc j _ hx 0 (by omega))
      have e1 : World.cell? wr ⟨lb, lo + j * 4 + 1, none⟩ = some (.int .i64 x.to) := (hb.cell (p := ⟨lb, lo + j * 4 + 1, none⟩) hlz).trans (hlc j _ hx 1 (by omega))
      have e2 : World.cell? wr ⟨lb, lo + j * 4 + 2, none⟩ = some (.int .i64 x.mass.lo) := (hb.cell (p := ⟨lb, lo + j * 4 + 2, none⟩) hlz).trans (hlc j _ hx 2 (by omega))
      have e3 : World.cell? wr ⟨lb, lo + j * 4 + 3, none⟩ = some (.int .i64 x.mass.hi) := (hb.cell (p := ⟨lb, lo + j * 4 + 3, none⟩) hlz).trans (hlc j _ hx 3 (by omega))
      have hr0 : ∀ jj, Value.ownBlock u7 = some jj → w.heap.size ≤ jj := fun jj hj => by
        rcases ownsRow_open own with ⟨rfl, _⟩ | ⟨gg, cc, uu, rfl, hgg, _⟩
        · cases hj
        · have hj' := Option.some.inj hj; dsimp only at hj'; omega
      clear hlc
      by_cases hjk : j = kn
      · have hd : ((j : Int) == (kn : Int)) = true := by rw [hjk]; simp
        have hgx : L[j]? = some ⟨x.frm, x.to, ⟨mm, mm⟩⟩ := by
          subst hjk
          rw [HTT.out] at hx
          injection hx with hx
          subst hx
          exact HSELF.out
        have hto := take_snoc hgx
        have HTO := Lib.hid hto
        clear hto hgx hx hjk
        obtain ⟨xf, xt, m0, m1⟩ := x
        dsimp only at *
        have hbz := (hb.alloc hsz (.cells #[.int .i64 xf, .int .i64 xt, .int .i64 mm, .int .i64 mm] 43)).alloc (by simp; omega) (.cells #[.int .i64 xf, .int .i64 xt, .int .i64 mm, .int .i64 mm] 43)
        have hbv := (Below.alloc (Below.refl wr.heap.size wr) (Nat.le_refl _) (.cells #[.int .i64 xf, .int .i64 xt, .int .i64 mm, .int .i64 mm] 43)).alloc (by simp) (.cells #[.int .i64 xf, .int .i64 xt, .int .i64 mm, .int .i64 mm] 43)
        have BN : Blk ((wr.alloc (.cells #[.int .i64 xf, .int .i64 xt, .int .i64 mm, .int .i64 mm] 43)).alloc (.cells #[.int .i64 xf, .int .i64 xt, .int .i64 mm, .int .i64 mm] 43)) (wr.heap.size + 1) 43 #[.int .i64 xf, .int .i64 xt, .int .i64 mm, .int .i64 mm] := by
          have := Blk.new (wr.alloc (.cells #[.int .i64 xf, .int .i64 xt, .int .i64 mm, .int .i64 mm] 43)) 43 #[.int .i64 xf, .int .i64 xt, .int .i64 mm, .int .i64 mm]
          simpa using this
        go_wp2_with (at_builtin; refine wpList_append_any _ rfl _ _ _ rfl w.heap.size 43 ti _ 4 32 Try.underlying23 hi hz hsi hby rfl (by omega) _ j _ rfl (ownsRow_step own hbv) _ 1 (encR ⟨xf, xt, ⟨mm, mm⟩⟩) rfl (Src.of_blk BN 1) rfl (fun u hu => oneR [⟨xf, xt, ⟨mm, mm⟩⟩] u (by simpa [rowOf] using hu)) (by simp only [maxLen]; omega) (by omega) (by first | omega | (simp only [World.size_alloc, World.size_setCell, World.size_drew] <;> omega)) ?_; intro v5 w5 own5 hg5 hat5)
        have hb5 : Below w.heap.size w w5 := Below.grown hbz hg5 (by first | omega | (simp only [World.size_alloc, World.size_setCell] <;> omega)) hr0
        have own7 : w5.ownsRow w.heap.size 43 4 v5 (j + 1) (rowOf encR (L.take (j + 1))) := by
          rw [HTO.out, rowOf_append]
          simpa [rowOf] using own5
        clear own5 own hg5 hbz hbv BN e0 e1 e2 e3
        go_roundw
        case rel => exact ⟨j + 1, by rw [HLL.out]; exact hjt, by simp, hb5, own7⟩
        case measure => simp [intOf]; omega
      · have hd : ((j : Int) == (kn : Int)) = false := by
          have : (j : Int) ≠ kn := by omega
          simpa using this
        have hgx : L[j]? = some x := (HOTH.out j (fun h => hjk h.symm)).trans hx
        have hto := take_snoc hgx
        have HTO := Lib.hid hto
        clear hto hgx hx hjk
        obtain ⟨xf, xt, m0, m1⟩ := x
        dsimp only at *
        have hbz := (hb.alloc hsz (.cells #[.int .i64 xf, .int .i64 xt, .int .i64 m0, .int .i64 m1] 43)).alloc (by simp; omega) (.cells #[.int .i64 xf, .int .i64 xt, .int .i64 m0, .int .i64 m1] 43)
        have hbv := (Below.alloc (Below.refl wr.heap.size wr) (Nat.le_refl _) (.cells #[.int .i64 xf, .int .i64 xt, .int .i64 m0, .int .i64 m1] 43)).alloc (by simp) (.cells #[.int .i64 xf, .int .i64 xt, .int .i64 m0, .int .i64 m1] 43)
        have BN : Blk ((wr.alloc (.cells #[.int .i64 xf, .int .i64 xt, .int .i64 m0, .int .i64 m1] 43)).alloc (.cells #[.int .i64 xf, .int .i64 xt, .int .i64 m0, .int .i64 m1] 43)) (wr.heap.size + 1) 43 #[.int .i64 xf, .int .i64 xt, .int .i64 m0, .int .i64 m1] := by
          have := Blk.new (wr.alloc (.cells #[.int .i64 xf, .int .i64 xt, .int .i64 m0, .int .i64 m1] 43)) 43 #[.int .i64 xf, .int .i64 xt, .int .i64 m0, .int .i64 m1]
          simpa using this
        go_wp2_with (at_builtin; refine wpList_append_any _ rfl _ _ _ rfl w.heap.size 43 ti _ 4 32 Try.underlying23 hi hz hsi hby rfl (by omega) _ j _ rfl (ownsRow_step own hbv) _ 1 (encR ⟨xf, xt, ⟨m0, m1⟩⟩) rfl (Src.of_blk BN 1) rfl (fun u hu => oneR [⟨xf, xt, ⟨m0, m1⟩⟩] u (by simpa [rowOf] using hu)) (by simp only [maxLen]; omega) (by omega) (by first | omega | (simp only [World.size_alloc, World.size_setCell, World.size_drew] <;> omega)) ?_; intro v5 w5 own5 hg5 hat5)
        have hb5 : Below w.heap.size w w5 := Below.grown hbz hg5 (by first | omega | (simp only [World.size_alloc, World.size_setCell] <;> omega)) hr0
        have own7 : w5.ownsRow w.heap.size 43 4 v5 (j + 1) (rowOf encR (L.take (j + 1))) := by
          rw [HTO.out, rowOf_append]
          simpa [rowOf] using own5
        clear own5 own hg5 hbz hbv BN e0 e1 e2 e3
        go_roundw
        case rel => exact ⟨j + 1, by rw [HLL.out]; exact hjt, by simp, hb5, own7⟩
        case measure => simp [intOf]; omega
    · obtain rfl : j = l.length := by omega
      have hLl := HLL.out
      rw [← hLl, List.take_length] at own
      have R0 := RowIn.of_own encR_len own
      clear own hLl
      go_wp2_with fail
      go_ret
      exact ⟨_, rfl, R0, hb⟩

end Go.Proofs.Ythaoclocachbaaa
