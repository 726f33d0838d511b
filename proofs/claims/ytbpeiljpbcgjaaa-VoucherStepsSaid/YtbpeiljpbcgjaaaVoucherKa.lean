/- The reference's Issue: what lies in memory between its appends, and behind them. -/
import Derived.Test.YtbpeiljpbcgjaaaVoucherJ
namespace Go.Proofs.Ytbpeiljpbcgjaaa
set_option linter.unusedVariables false
set_option linter.unusedSimpArgs false
open Go.RowKit


theorem own_drew {w : World} {base : Nat} {e : TypeId} {size : Nat} {v : Value} {n : Nat} {xs : List Value} (h : w.ownsRow base e size v n xs) : w.drew.ownsRow base e size v n xs := h
theorem far_of {v1 : Value} {g n cap B S : Nat} (hat : (Value.slice (some ⟨g, 0, none⟩) n cap).ownBlock = v1.ownBlock ∨ (Value.slice (some ⟨g, 0, none⟩) n cap).ownBlock = some S) (h1 : ∀ j, v1.ownBlock = some j → B ≤ j) (h2 : B ≤ S) : B ≤ g := by
  rcases hat with h | h
  · exact h1 g h.symm
  · simp only [Value.ownBlock, Option.some.injEq] at h
    omega

structure Mid (w W : World) (v now m a t am : Int) (es : List Ent) (x : Ent) (ob : Option Addr) (cap' g2 cap2 : Nat) : Prop where
  m4 : Blk W w.heap.size 29 #[.int .i64 v, .int .i64 now, .slice (some ⟨g2, 0, none⟩) (es.length + 1) cap2, .slice ob es.length cap']
  m8 : Blk W (w.heap.size + 1) 29 #[.int .i64 0, .int .i64 0, .slice none 0 0, .slice none 0 0]
  m9 : Blk W (w.heap.size + 2) 38 #[.int .i64 0, .int .i64 0, .int .i64 0, .int .i64 0, .int .i64 0]
  m11 : Blk W (w.heap.size + 3) 38 #[.int .i64 (es.length + 1), .int .i64 m, .int .i64 a, .int .i64 t, .int .i64 am]
  own : W.ownsRow w.heap.size 38 5 (.slice (some ⟨g2, 0, none⟩) (es.length + 1) cap2) (es.length + 1) (rowOf encV (es ++ [x]))
  far : w.heap.size + 4 ≤ g2
  bel : Below w.heap.size w W

theorem mid_of {w w2 : World} {v now m a t am : Int} {es : List Ent} {x : Ent} {oa ob : Option Addr} {cap cap' g2 cap2 n : Nat}
    (j4 : Blk w2 w.heap.size 29 #[.int .i64 v, .int .i64 now, .slice oa es.length cap, .slice ob es.length cap']) (j8 : Blk w2 (w.heap.size + 1) 29 #[.int .i64 0, .int .i64 0, .slice none 0 0, .slice none 0 0]) (j9 : Blk w2 (w.heap.size + 2) 38 #[.int .i64 0, .int .i64 0, .int .i64 0, .int .i64 0, .int .i64 0])
    (j11 : Blk w2 (w.heap.size + 3) 38 #[.int .i64 (es.length + 1), .int .i64 m, .int .i64 a, .int .i64 t, .int .i64 am])
    (ho : w2.ownsRow w.heap.size 38 5 (.slice (some ⟨g2, 0, none⟩) n cap2) n ([] ++ rowOf encV es ++ encV x)) (hg : w.heap.size + 4 ≤ g2) (zb : Below w.heap.size w w2) (hn : n = es.length + 1 := by omega) :
    Mid w (w2.setCell ⟨w.heap.size, 2, none⟩ (.slice (some ⟨g2, 0, none⟩) (es.length + 1) cap2)) v now m a t am es x ob cap' g2 cap2 := by
  subst hn
  have hne : g2 ≠ w.heap.size := fun e => by
    obtain ⟨g, c, cur, he, _, hb, _⟩ := ownsRow_some ho (by omega)
    cases he
    unfold Blk at hb j4
    rw [e, j4] at hb
    cases hb
  refine ⟨j4.put 2 _, j8.far (p := ⟨w.heap.size, 2, none⟩) (by simp) _, j9.far (p := ⟨w.heap.size, 2, none⟩) (by simp) _, j11.far (p := ⟨w.heap.size, 2, none⟩) (by simp) _, ?_, hg, zb.setCell (Nat.le_refl _) _⟩
  have := ownsRow_setCell_other (a := ⟨w.heap.size, 2, none⟩) ho (by simpa [Value.ownBlock] using hne) (.slice (some ⟨g2, 0, none⟩) (es.length + 1) cap2)
  simpa [rowOf_append, rowOf] using this

structure Fin5 (w W : World) (v m a t am : Int) (es : List Ent) (x : Ent) (g2 cap2 g4 cap4 : Nat) : Prop where
  m4 : Blk W w.heap.size 29 #[.int .i64 v, .int .i64 t, .slice (some ⟨g2, 0, none⟩) (es.length + 1) cap2, .slice (some ⟨g4, 0, none⟩) (es.length + 1) cap4]
  m8 : Blk W (w.heap.size + 1) 29 #[.int .i64 0, .int .i64 0, .slice none 0 0, .slice none 0 0]
  m9 : Blk W (w.heap.size + 2) 38 #[.int .i64 0, .int .i64 0, .int .i64 0, .int .i64 0, .int .i64 0]
  m11 : Blk W (w.heap.size + 3) 38 #[.int .i64 (es.length + 1), .int .i64 m, .int .i64 a, .int .i64 t, .int .i64 am]
  own : W.ownsRow w.heap.size 38 5 (.slice (some ⟨g2, 0, none⟩) (es.length + 1) cap2) (es.length + 1) (rowOf encV (es ++ [x]))
  ownr : W.ownsRow w.heap.size 4 1 (.slice (some ⟨g4, 0, none⟩) (es.length + 1) cap4) (es.length + 1) (rowOf encR (es ++ [x]))
  bel : Below w.heap.size w W

theorem fin_of {w w4 : World} {v now m a t am : Int} {es : List Ent} {x : Ent} {ob : Option Addr} {cap' g2 cap2 g4 cap4 : Nat}
    (j4 : Blk w4 w.heap.size 29 #[.int .i64 v, .int .i64 now, .slice (some ⟨g2, 0, none⟩) (es.length + 1) cap2, .slice ob es.length cap']) (j8 : Blk w4 (w.heap.size + 1) 29 #[.int .i64 0, .int .i64 0, .slice none 0 0, .slice none 0 0]) (j9 : Blk w4 (w.heap.size + 2) 38 #[.int .i64 0, .int .i64 0, .int .i64 0, .int .i64 0, .int .i64 0])
    (j11 : Blk w4 (w.heap.size + 3) 38 #[.int .i64 (es.length + 1), .int .i64 m, .int .i64 a, .int .i64 t, .int .i64 am])
    (ho : w4.ownsRow w.heap.size 38 5 (.slice (some ⟨g2, 0, none⟩) (es.length + 1) cap2) (es.length + 1) (rowOf encV (es ++ [x])))
    (hr : w4.ownsRow w.heap.size 4 1 (.slice (some ⟨g4, 0, none⟩) (es.length + 1) cap4) (es.length + 1) (rowOf encR es ++ [.bool false])) (hx : x.red = false) (zb : Below w.heap.size w w4) :
    Fin5 w ((w4.setCell ⟨w.heap.size, 3, none⟩ (.slice (some ⟨g4, 0, none⟩) (es.length + 1) cap4)).setCell ⟨w.heap.size, 1, none⟩ (.int .i64 t)) v m a t am es x g2 cap2 g4 cap4 := by
  have hne : ∀ {T g c : Nat} {size : Nat} {xs : List Value}, T ≠ 29 → w4.ownsRow w.heap.size T size (.slice (some ⟨g, 0, none⟩) (es.length + 1) c) (es.length + 1) xs → g ≠ w.heap.size := fun hT h e => by
    obtain ⟨g', c', cur, he, _, hb, _⟩ := ownsRow_some h (by omega)
    cases he
    unfold Blk at hb j4
    rw [e, j4] at hb
    cases hb
    exact hT rfl
  have h2 := hne (by decide) ho
  have h4 := hne (by decide) hr
  refine ⟨(j4.put 3 _).put 1 _, (j8.far (p := ⟨w.heap.size, 3, none⟩) (by simp) _).far (p := ⟨w.heap.size, 1, none⟩) (by simp) _, (j9.far (p := ⟨w.heap.size, 3, none⟩) (by simp) _).far (p := ⟨w.heap.size, 1, none⟩) (by simp) _,
    (j11.far (p := ⟨w.heap.size, 3, none⟩) (by simp) _).far (p := ⟨w.heap.size, 1, none⟩) (by simp) _, ?_, ?_, (zb.setCell (Nat.le_refl _) _).setCell (Nat.le_refl _) _⟩
  · exact ownsRow_setCell_other (a := ⟨w.heap.size, 1, none⟩) (ownsRow_setCell_other (a := ⟨w.heap.size, 3, none⟩) ho (by simpa [Value.ownBlock] using h2) _) (by simpa [Value.ownBlock] using h2) _
  · have := ownsRow_setCell_other (a := ⟨w.heap.size, 1, none⟩) (ownsRow_setCell_other (a := ⟨w.heap.size, 3, none⟩) hr (by simpa [Value.ownBlock] using h4) (.slice (some ⟨g4, 0, none⟩) (es.length + 1) cap4)) (by simpa [Value.ownBlock] using h4) (.int .i64 t)
    have he : rowOf encR (es ++ [x]) = rowOf encR es ++ [.bool false] := by rw [rowOf_append]; simp [rowOf, encR, hx]
    rw [he]
    exact this

end Go.Proofs.Ytbpeiljpbcgjaaa
