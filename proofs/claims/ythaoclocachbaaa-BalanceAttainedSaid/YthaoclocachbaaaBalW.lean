/- Contract: the closure of Tighten. -/
import Derived.Test.YthaoclocachbaaaBalJ
namespace Go.Proofs.Ythaoclocachbaaa
set_option linter.unusedVariables false
set_option linter.unusedSimpArgs false
open Go.RowKit

/-- Nothing old but block g has changed. -/
structure BelowX (g : Nat) (w w' : World) : Prop where
  os : w'.os = w.os
  tape : w'.tape = w.tape
  output : w'.output = w.output
  size : w.heap.size ≤ w'.heap.size
  block : ∀ k, k < w.heap.size → k ≠ g → w'.heap[k]? = w.heap[k]?
section
variable {g : Nat} {w w' w'' : World}
theorem BelowX.of (h : Below w.heap.size w w') : BelowX g w w' := ⟨h.os, h.tape, h.output, h.size, fun k hk _ => h.block k hk⟩
theorem BelowX.step (h : BelowX g w w') (k : Below w'.heap.size w' w'') : BelowX g w w'' :=
  ⟨k.os.trans h.os, k.tape.trans h.tape, k.output.trans h.output, Nat.le_trans h.size k.size, fun i hi hg => (k.block i (Nat.lt_of_lt_of_le hi h.size)).trans (h.block i hi hg)⟩
theorem BelowX.set (h : BelowX g w w') (o : Nat) (u : Value) : BelowX g w (w'.setCell ⟨g, o, none⟩ u) :=
  ⟨h.os, h.tape, h.output, Nat.le_trans h.size (by simp), fun k hk hg => (Below.heap_setCell w' ⟨g, o, none⟩ u k hg).trans (h.block k hk hg)⟩
theorem BelowX.alloc (h : BelowX g w w') (o : Obj) : BelowX g w (w'.alloc o) := h.step ((Below.refl _ _).alloc (Nat.le_refl _) o)
theorem BelowX.back {t : TypeId} {cs : Array Value} (h : BelowX g w w') (h0 : Blk w g t cs) (h1 : Blk w' g t cs) : Below w.heap.size w w' :=
  ⟨h.os, h.tape, h.output, h.size, fun k hk => by
    by_cases e : k = g
    · subst e; unfold Blk at h0 h1; rw [h0, h1]
    · exact h.block k hk e⟩
theorem BelowX.blk {b : Nat} {t : TypeId} {cs : Array Value} (h : BelowX g w w') (hb : b ≠ g) (h0 : Blk w b t cs) : Blk w' b t cs := (h.block b h0.lt hb).trans h0
end

/-- The cells of the edges. -/
def Rw5 (cur : Array Value) (E : List Ed) : Prop := ∀ k e, E[k]? = some e → ∀ j, j < 5 → cur[k * 5 + j]? = (encE e)[j]?
theorem Rw5.row {w : World} {ge cap : Nat} {cur : Array Value} {E : List Ed} (hB : Blk w ge 60 cur) (h : Rw5 cur E) (h1 : E.length ≤ cap) (h2 : cap ≤ maxLen) : RowIn w (.slice (some ⟨ge, 0, none⟩) E.length cap) 5 encE E :=
  ⟨some ⟨ge, 0, none⟩, cap, rfl, h1, h2, by simp, fun _ => ⟨ge, 0, rfl, hB.lt, fun k x hx j hj => by rw [Nat.zero_add]; exact (hB.cell _).trans (h k x hx j hj)⟩⟩
theorem Rw5.of_row {w : World} {ge n cap : Nat} {cur : Array Value} {E : List Ed} (hB : Blk w ge 60 cur) (h : RowIn w (.slice (some ⟨ge, 0, none⟩) n cap) 5 encE E) : Rw5 cur E := by
  obtain ⟨oa, cap', e, _, _, _, h5⟩ := h.at_
  intro k x hx j hj
  obtain ⟨b, o', e', _, hc⟩ := h5 (by rintro rfl; simp at hx)
  simp only [Value.slice.injEq] at e
  obtain ⟨rfl, _, _⟩ := e
  simp only [Option.some.injEq, Addr.mk.injEq, and_true] at e'
  obtain ⟨rfl, rfl⟩ := e'
  have := hc k x hx j hj
  rw [Nat.zero_add, hB.cell] at this
  exact this
theorem Rw5.set {cur : Array Value} {E : List Ed} (h : Rw5 cur E) {m : Nat} {e : Ed} (he : E[m]? = some e) (a b : Int) :
    Rw5 ((cur.setIfInBounds (m * 5 + 2) (.int .i64 a)).setIfInBounds (m * 5 + 3) (.int .i64 b)) (E.set m ⟨e.u, e.v, a, b⟩) := by
  intro k x hx j hj
  have hm : m < E.length := (List.getElem?_eq_some_iff.1 he).1
  have s2 : m * 5 + 2 < cur.size := by
    have := h m e he 2 (by omega)
    rw [show (encE e)[2]? = some (.int .i64 e.lo) from rfl] at this
    exact (Array.getElem?_eq_some_iff.1 this).1
  have s3 : m * 5 + 3 < cur.size := by
    have := h m e he 3 (by omega)
    rw [show (encE e)[3]? = some (.int .i64 e.hi) from rfl] at this
    exact (Array.getElem?_eq_some_iff.1 this).1
  by_cases hk : m = k
  · subst hk
    rw [List.getElem?_set_self hm] at hx
    injection hx with hx
    subst hx
    have h0 := h m e he j hj
    rcases (show j = 0 ∨ j = 1 ∨ j = 2 ∨ j = 3 ∨ j = 4 by omega) with rfl | rfl | rfl | rfl | rfl
    · rw [Array.getElem?_setIfInBounds_ne (by omega), Array.getElem?_setIfInBounds_ne (by omega), h0]; rfl
    · rw [Array.getElem?_setIfInBounds_ne (by omega), Array.getElem?_setIfInBounds_ne (by omega), h0]; rfl
    · rw [Array.getElem?_setIfInBounds_ne (by omega), Array.getElem?_setIfInBounds_self_of_lt s2]; rfl
    · rw [Array.getElem?_setIfInBounds_self_of_lt (by simpa using s3)]; rfl
    · rw [Array.getElem?_setIfInBounds_ne (by omega), Array.getElem?_setIfInBounds_ne (by omega), h0]; rfl
  · rw [List.getElem?_set_ne hk] at hx
    rw [Array.getElem?_setIfInBounds_ne (by omega), Array.getElem?_setIfInBounds_ne (by omega)]
    exact h k x hx j hj

theorem back5 {cur : Array Value} {m : Nat} {x0 x1 x2 x3 x4 y z : Value} (c0 : cur[m]? = some x0) (c1 : cur[m + 1]? = some x1) (c2 : cur[m + 2]? = some x2) (c3 : cur[m + 3]? = some x3) (c4 : cur[m + 4]? = some x4) :
    (((((((cur.setIfInBounds (m + 2) y).setIfInBounds (m + 3) z).setIfInBounds m x0).setIfInBounds (m + 1) x1).setIfInBounds (m + 2) x2).setIfInBounds (m + 3) x3).setIfInBounds (m + 4) x4) = cur := by
  have h4 := (Array.getElem?_eq_some_iff.1 c4).1
  refine Array.ext_getElem? fun i => ?_
  rcases (show i = m ∨ i = m + 1 ∨ i = m + 2 ∨ i = m + 3 ∨ i = m + 4 ∨ (i ≠ m ∧ i ≠ m + 1 ∧ i ≠ m + 2 ∧ i ≠ m + 3 ∧ i ≠ m + 4) by omega) with rfl | rfl | rfl | rfl | rfl | ⟨n0, n1, n2, n3, n4⟩
  · rw [Array.getElem?_setIfInBounds_ne (by omega), Array.getElem?_setIfInBounds_ne (by omega), Array.getElem?_setIfInBounds_ne (by omega), Array.getElem?_setIfInBounds_ne (by omega), Array.getElem?_setIfInBounds_self_of_lt (by simp; omega), c0]
  · rw [Array.getElem?_setIfInBounds_ne (by omega), Array.getElem?_setIfInBounds_ne (by omega), Array.getElem?_setIfInBounds_ne (by omega), Array.getElem?_setIfInBounds_self_of_lt (by simp; omega), c1]
  · rw [Array.getElem?_setIfInBounds_ne (by omega), Array.getElem?_setIfInBounds_ne (by omega), Array.getElem?_setIfInBounds_self_of_lt (by simp; omega), c2]
  · rw [Array.getElem?_setIfInBounds_ne (by omega), Array.getElem?_setIfInBounds_self_of_lt (by simp; omega), c3]
  · rw [Array.getElem?_setIfInBounds_self_of_lt (by simp; omega), c4]
  · repeat rw [Array.getElem?_setIfInBounds_ne (by omega)]
def T1Out (w : World) (N : Nat) (E : List Ed) (e : Ending) (w' : World) : Prop :=
  Below w.heap.size w w' ∧ ((e = .returned (.bool false) ∧ ∃ T : Nat → Bool, roomOf T E < 0) ∨ (e = .returned (.bool true) ∧ ∃ xs, Circ N E xs))
set_option maxRecDepth 100000 in
set_option maxHeartbeats 8000000 in
theorem tight1_any {w : World} {gB gN ge cap N : Nat} {cur : Array Value} {E : List Ed} (hN : N ≤ 8) (BB : Blk w gB 55 #[.slice (some ⟨ge, 0, none⟩) E.length cap]) (BN : Blk w gN 3 #[.int .i64 (N : Int)]) (BE : Blk w ge 60 cur)
    (hR : Rw5 cur E) (hcap : E.length ≤ cap) (hcm : cap ≤ maxLen) (hlen : E.length ≤ 96) (h1 : gB ≠ ge) (h2 : gN ≠ ge) (i : Nat) {e : Ed} (he : E[N + i]? = some e) (a b : Int) (hE : ∀ x ∈ E.set (N + i) ⟨e.u, e.v, a, b⟩, EdB N x) :
    Calls Try.prog 35 #[.int .i64 (i : Int), .int .i64 a, .int .i64 b, .pointer (some ⟨gB, 0, none⟩), .pointer (some ⟨gN, 0, none⟩)] w (T1Out w N (E.set (N + i) ⟨e.u, e.v, a, b⟩)) := by
  have hm : N + i < E.length := (List.getElem?_eq_some_iff.1 he).1
  have hR2 := hR.set he a b
  have HE := Lib.hid hE
  have c0 : cur[(N + i) * 5]? = some (.int .i64 (e.u : Nat)) := hR _ e he 0 (by omega)
  have c1 : cur[(N + i) * 5 + 1]? = some (.int .i64 (e.v : Nat)) := hR _ e he 1 (by omega)
  have c2 : cur[(N + i) * 5 + 2]? = some (.int .i64 e.lo) := hR _ e he 2 (by omega)
  have c3 : cur[(N + i) * 5 + 3]? = some (.int .i64 e.hi) := hR _ e he 3 (by omega)
  have c4 : cur[(N + i) * 5 + 4]? = some (.int .i64 0) := hR _ e he 4 (by omega)
  have hml : (N : Int) + i < E.length := by omega
  have hm0 : (0 : Int) ≤ (N : Int) + i := by omega
  have HC := Lib.hid (And.intro c0 (And.intro c1 (And.intro c2 (And.intro c3 c4))))
  have e0 := (BE.cell _).trans c0
  have e1 := (BE.cell _).trans c1
  have e2 := (BE.cell _).trans c2
  have e3 := (BE.cell _).trans c3
  have e4 := (BE.cell _).trans c4
  have k0 := BB.cell 0
  have k1 := BN.cell 0
  have lB := BB.lt
  have lN := BN.lt
  have lE := BE.lt
  clear c0 c1 c2 c3 c4 hE
  obtain ⟨u, v, lo, hi⟩ := e
  dsimp only at *
  go_enter Try.func35, Try.ntmps35
  go_wp2_with fail
  clear e0 e1 e2 e3 e4 k0 k1 lB lN lE
  have BX := Blk.new w 60 #[.int .i64 (u : Nat), .int .i64 (v : Nat), .int .i64 lo, .int .i64 hi, .int .i64 0]
  have hx := (BelowX.of (g := ge) (Below.refl w.heap.size w)).alloc (.cells #[.int .i64 (u : Nat), .int .i64 (v : Nat), .int .i64 lo, .int .i64 hi, .int .i64 0] 60)
  have hgx : w.heap.size ≠ ge := by have := BE.lt; omega
  have BB2 := BB.alloc (.cells #[.int .i64 (u : Nat), .int .i64 (v : Nat), .int .i64 lo, .int .i64 hi, .int .i64 0] 60)
  have BN2 := BN.alloc (.cells #[.int .i64 (u : Nat), .int .i64 (v : Nat), .int .i64 lo, .int .i64 hi, .int .i64 0] 60)
  have BE2 := BE.alloc (.cells #[.int .i64 (u : Nat), .int .i64 (v : Nat), .int .i64 lo, .int .i64 hi, .int .i64 0] 60)
  generalize w.alloc (.cells #[.int .i64 (u : Nat), .int .i64 (v : Nat), .int .i64 lo, .int .i64 hi, .int .i64 0] 60) = w2 at *
  have k0 : w2.cell? ⟨gB, 0, none⟩ = some (.slice (some ⟨ge, 0, none⟩) E.length cap) := BB2.cell 0
  have k1 : w2.cell? ⟨gN, 0, none⟩ = some (.int .i64 (N : Int)) := BN2.cell 0
  have lB := BB2.lt
  have lN := BN2.lt
  have lE := BE2.lt
  have fE := BE2.free
  obtain ⟨c0, c1, c2, c3, c4⟩ := HC.out
  have e2 := (BE2.cell _).trans c2
  have e3 := (BE2.cell _).trans c3
  clear c0 c1 c2 c3 c4
  go_region
  clear k0 k1 lB lN lE fE e2 e3
  replace BX := ((BX.far (p := ⟨ge, (N + i) * 5 + 2, none⟩) hgx (.int .i64 a)).far (p := ⟨ge, (N + i) * 5 + 3, none⟩) hgx (.int .i64 b)).drew
  replace BB2 := ((BB2.far (p := ⟨ge, (N + i) * 5 + 2, none⟩) h1 (.int .i64 a)).far (p := ⟨ge, (N + i) * 5 + 3, none⟩) h1 (.int .i64 b)).drew
  replace BN2 := ((BN2.far (p := ⟨ge, (N + i) * 5 + 2, none⟩) h2 (.int .i64 a)).far (p := ⟨ge, (N + i) * 5 + 3, none⟩) h2 (.int .i64 b)).drew
  replace BE2 := ((BE2.put ((N + i) * 5 + 2) (.int .i64 a)).put ((N + i) * 5 + 3) (.int .i64 b)).drew
  replace hx := ((hx.set ((N + i) * 5 + 2) (.int .i64 a)).set ((N + i) * 5 + 3) (.int .i64 b)).step (Below.refl _ _).drew
  generalize ((w2.setCell ⟨ge, (N + i) * 5 + 2, none⟩ (.int .i64 a)).setCell ⟨ge, (N + i) * 5 + 3, none⟩ (.int .i64 b)).drew = w3 at *
  have hrow := Rw5.row BE2 hR2 (by rw [List.length_set]; exact hcap) hcm
  rw [List.length_set] at hrow
  have k0 := BB2.cell 0
  have k1 := BN2.cell 0
  have lB := BB2.lt
  have lN := BN2.lt
  go_wp2_with fail
  clear k0 k1 lB lN
  have hml : N + i < E.length := hm
  refine (solve_any N hN hrow HE.out (by rw [List.length_set]; exact hlen)).mono ?_
  rintro e w4 ⟨hb4, hout⟩
  clear hrow
  replace BX := BX.step hb4
  replace BB2 := BB2.step hb4
  replace BN2 := BN2.step hb4
  replace BE2 := BE2.step hb4
  replace hx := hx.step hb4
  have hfin : ∃ B vv, e = .returned (.tuple #[vv, .bool B]) ∧ ((B = false ∧ ∃ T : Nat → Bool, roomOf T (E.set (N + i) ⟨u, v, a, b⟩) < 0) ∨ (B = true ∧ ∃ xs, Circ N (E.set (N + i) ⟨u, v, a, b⟩) xs)) := by
    rcases hout with ⟨rfl, hT⟩ | ⟨vv, xs, rfl, _, hc⟩
    · exact ⟨false, _, rfl, .inl ⟨rfl, hT⟩⟩
    · exact ⟨true, _, rfl, .inr ⟨rfl, xs, hc⟩⟩
  obtain ⟨B, vv, rfl, hfin⟩ := hfin
  have HFIN := Lib.hid hfin
  clear hfin hout
  have k0 := BB2.cell 0
  have k1 := BN2.cell 0
  have cx := BX.cell
  have lB := BB2.lt
  have lN := BN2.lt
  have lX := BX.lt
  have lE := BE2.lt
  have fE := BE2.free
  have hself : (E.set (N + i) ⟨u, v, a, b⟩)[N + i]? = some ⟨u, v, a, b⟩ := List.getElem?_set_self hm
  have g0 : w4.cell? ⟨ge, (N + i) * 5, none⟩ = some (.int .i64 (u : Nat)) := (BE2.cell _).trans (hR2 _ _ hself 0 (by omega))
  have g1 : w4.cell? ⟨ge, (N + i) * 5 + 1, none⟩ = some (.int .i64 (v : Nat)) := (BE2.cell _).trans (hR2 _ _ hself 1 (by omega))
  have g2 : w4.cell? ⟨ge, (N + i) * 5 + 2, none⟩ = some (.int .i64 a) := (BE2.cell _).trans (hR2 _ _ hself 2 (by omega))
  have g3 : w4.cell? ⟨ge, (N + i) * 5 + 3, none⟩ = some (.int .i64 b) := (BE2.cell _).trans (hR2 _ _ hself 3 (by omega))
  have g4 : w4.cell? ⟨ge, (N + i) * 5 + 4, none⟩ = some (.int .i64 0) := (BE2.cell _).trans (hR2 _ _ hself 4 (by omega))
  clear hself he hR2 hR
  go_wp2_with fail
  go_ret
  obtain ⟨c0, c1, c2, c3, c4⟩ := HC.out
  have BE5 := (((((BE2.put ((N + i) * 5) (.int .i64 (u : Nat))).put ((N + i) * 5 + 1) (.int .i64 (v : Nat))).put ((N + i) * 5 + 2) (.int .i64 lo)).put ((N + i) * 5 + 3) (.int .i64 hi)).put ((N + i) * 5 + 4) (.int .i64 0))
  rw [back5 c0 c1 c2 c3 c4] at BE5
  have hx5 := ((((hx.set ((N + i) * 5) (.int .i64 (u : Nat))).set ((N + i) * 5 + 1) (.int .i64 (v : Nat))).set ((N + i) * 5 + 2) (.int .i64 lo)).set ((N + i) * 5 + 3) (.int .i64 hi)).set ((N + i) * 5 + 4) (.int .i64 0)
  refine ⟨hx5.back BE BE5, ?_⟩
  rcases HFIN.out with ⟨rfl, hT⟩ | ⟨rfl, hc⟩
  · exact .inl ⟨rfl, hT⟩
  · exact .inr ⟨rfl, hc⟩

end Go.Proofs.Ythaoclocachbaaa
