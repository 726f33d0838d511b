/- Contract: left of the reference. -/
import Derived.Test.YtpafcdigcpbbeaaLotK
namespace Go.Proofs.Ytpafcdigcpbbeaa
set_option linter.unusedVariables false
set_option linter.unusedSimpArgs false
open Go.RowKit

set_option maxRecDepth 100000 in
set_option maxHeartbeats 8000000 in
theorem rleft_any {w : World} {v : Value} {L : List Lv} (h : LotsIn w v L) (hok : PartsOk L) (x : Lv) {pa : Option Addr} {pc : Nat} (hpv : x.pv = .slice pa x.parts.length pc) (h1 : 0 ≤ x.lo ∧ x.lo ≤ 70368744177664 ∧ 0 ≤ x.hi ∧ x.hi ≤ 70368744177664) :
    Calls Try.prog 34 #[v, .agg #[.int .i64 (x).id, .int .i64 (x).mat, .int .i64 (x).lo, .int .i64 (x).hi, (x).pv]] w fun e w' => e = .returned (.agg #[.int .i64 (restS x (tk L x.id)).lo, .int .i64 (restS x (tk L x.id)).hi]) ∧ Below w.heap.size w w' := by
  have hb := tk_bd hok x.id L.length (Nat.le_refl _)
  rw [List.take_length] at hb
  have hfew := hok.few
  have htk := fun w h => rtaken_any (w := w) (v := v) (L := L) h hok x.id
  obtain ⟨xi, xm, xl, xh, xv, ps⟩ := x
  dsimp only at *
  subst hpv
  obtain ⟨a1, a2, a3, a4⟩ := h1
  have hR : restS ⟨xi, xm, xl, xh, .slice pa ps.length pc, ps⟩ (tk L xi) = ⟨if xl - (tk L xi).hi < 0 then 0 else xl - (tk L xi).hi, xh - (tk L xi).lo⟩ := rfl
  generalize restS ⟨xi, xm, xl, xh, .slice pa ps.length pc, ps⟩ (tk L xi) = R at *
  generalize tk L xi = T at *
  obtain ⟨b1, b2, b3⟩ := hb
  have HR := Lib.hid hR
  clear hR
  have hbw : Below w.heap.size w ((w.alloc (.cells #[.int .i64 xi, .int .i64 xm, .int .i64 xl, .int .i64 xh, .slice pa ps.length pc] 33)).alloc (.cells #[.int .i64 0, .int .i64 0] 29)) := by repeat (first | (with_reducible exact Below.refl _ _) | (with_reducible assumption) | (with_reducible refine Below.drew ?_) | ((with_reducible refine Below.alloc ?_ ?_ _); rotate_left; (first | (with_reducible exact Nat.zero_le _) | (with_reducible exact Nat.le_refl _) | omega | (dsimp only; omega) | (simp only [World.size_alloc, World.size_setCell, World.size_drew]; omega))) | ((with_reducible refine Below.setCell ?_ ?_ _); rotate_left; (first | (with_reducible exact Nat.zero_le _) | (with_reducible exact Nat.le_refl _) | omega | (dsimp only; omega) | (simp only [World.size_alloc, World.size_setCell, World.size_drew]; omega))))
  have BX : Blk ((w.alloc (.cells #[.int .i64 xi, .int .i64 xm, .int .i64 xl, .int .i64 xh, .slice pa ps.length pc] 33)).alloc (.cells #[.int .i64 0, .int .i64 0] 29)) w.heap.size 33 #[.int .i64 xi, .int .i64 xm, .int .i64 xl, .int .i64 xh, .slice pa ps.length pc] := (Blk.new w 33 _).alloc _
  have BR : Blk ((w.alloc (.cells #[.int .i64 xi, .int .i64 xm, .int .i64 xl, .int .i64 xh, .slice pa ps.length pc] 33)).alloc (.cells #[.int .i64 0, .int .i64 0] 29)) (w.heap.size + 1) 29 #[.int .i64 0, .int .i64 0] := by
    have := Blk.new (w.alloc (.cells #[.int .i64 xi, .int .i64 xm, .int .i64 xl, .int .i64 xh, .slice pa ps.length pc] 33)) 29 #[.int .i64 0, .int .i64 0]
    simpa using this
  have ht := htk _ (h.step hbw)
  clear htk h
  rcases (show xl - T.hi < 0 ∨ xl - T.hi = 0 ∨ 0 < xl - T.hi by omega) with d1 | d1 | d1
  all_goals (
    go_enter Try.func34, Try.ntmps34
    go_wp2_with fail
    refine ht.mono ?_
    rintro e w1 ⟨rfl, hb1⟩
    replace BX := BX.step hb1
    replace BR := BR.step hb1
    have cx := BX.cell
    have lx := BX.lt
    have cr := BR.cell
    have fr := BR.free
    have lr := BR.lt
    have hbz := hbw.trans (hb1.mono hbw.size)
    have hz := hbz.size
    clear ht
    go_wp2_with fail
    refine bodyPost_ret (v := .agg #[.int .i64 (R).lo, .int .i64 (R).hi]) (by simp only [results, Try.results34]; go_simp; rw [HR.out]; first | done | rfl | (dsimp only; split <;> first | rfl | omega | (congr 3; omega)) | (simp; omega)) rfl ⟨rfl, ?_⟩
    repeat (first | (with_reducible exact Below.refl _ _) | (with_reducible assumption) | (with_reducible refine Below.drew ?_) | ((with_reducible refine Below.alloc ?_ ?_ _); rotate_left; (first | (with_reducible exact Nat.zero_le _) | (with_reducible exact Nat.le_refl _) | omega | (dsimp only; omega) | (simp only [World.size_alloc, World.size_setCell, World.size_drew]; omega))) | ((with_reducible refine Below.setCell ?_ ?_ _); rotate_left; (first | (with_reducible exact Nat.zero_le _) | (with_reducible exact Nat.le_refl _) | omega | (dsimp only; omega) | (simp only [World.size_alloc, World.size_setCell, World.size_drew]; omega)))))

end Go.Proofs.Ytpafcdigcpbbeaa
