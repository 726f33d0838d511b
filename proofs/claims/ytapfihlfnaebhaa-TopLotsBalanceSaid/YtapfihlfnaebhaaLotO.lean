/- Slices of lots that came in: structs that hold slices of parts. -/
import Derived.Test.YtapfihlfnaebhaaLotP
import Derived.Test.YtapfihlfnaebhaaArgs
import Derived.Test.YtapfihlfnaebhaaProg
namespace Go.Proofs.Ytapfihlfnaebhaa
set_option linter.unusedVariables false
set_option linter.unusedSimpArgs false
open Go.ChangeShapes Go.WideShapes Go.RowKit Go.Deep

def encT (p : Pt) : List Value := [.int .i64 p.lot, .int .i64 p.lo, .int .i64 p.hi]
def decT (x : List Int) : Pt := ⟨x.getD 0 0, x.getD 1 0, x.getD 2 0⟩
theorem decT_enc (x : List Int) (h : x.length = 3) : encT (decT x) = x.map (Value.int .i64) := by
  obtain ⟨a, b, c, rfl⟩ := len3 h
  rfl
def encV (x : Lv) : List Value := [.int .i64 x.id, .int .i64 x.mat, .int .i64 x.lo, .int .i64 x.hi, x.pv]
theorem encV_len (x : Lv) : (encV x).length = 5 := rfl
/-- A slice of lots: their cells, their parts, and that their numbers are ints. -/
structure LotsIn (w : World) (v : Value) (L : List Lv) : Prop where
  row : RowIn w v 5 encV L
  part : ∀ x ∈ L, RowIn w x.pv 3 encT x.parts
  id : ∀ x ∈ L, (Lit.int .i64 x.id).wf = true
  lot : ∀ x ∈ L, ∀ p ∈ x.parts, (Lit.int .i64 p.lot).wf = true
theorem LotsIn.step {w w' : World} {v : Value} {L : List Lv} (h : LotsIn w v L) (hb : Below w.heap.size w w') : LotsIn w' v L :=
  ⟨h.row.step hb, fun x hx => (h.part x hx).step hb, h.id, h.lot⟩
theorem wf_of_has {z : Int} (h : IntKind.i64.has z) : (Lit.int .i64 z).wf = true := by
  simp only [Lit.wf, Bool.and_eq_true, decide_eq_true_eq]; exact h

section
variable {H : Type} {enc : TypeId × Value → H} {P : Program} {w : World}
/-- A slice in one cell. -/
theorem open_row1 {α : Type} {k : IntKind} {t e : TypeId} {c : Value} {fuel : Nat} {y : DataW H × List MemPlace} {C : Nat} (ht : P.underlying t = some (.slice e)) (hC : P.cellsOf e = C) (hpos : 0 < C) (n : Nat)
    (hflat : flatB P k n e = true) (dec : List Int → α) (f : α → List Value) (hdec : ∀ x : List Int, x.length = C → f (dec x) = x.map (Value.int k))
    (hf : DataW.trod enc P w 0 (fun _ => true) true fuel t [c] = some y) : ∃ l : List α, RowIn w c C f l ∧ ∀ a ∈ l, ∃ x : List Int, x.length = C ∧ (∀ z ∈ x, k.has z) ∧ a = dec x := by
  subst hC
  rcases open_slice ht hf with ⟨hcs, _⟩ | ⟨a, len, cap, m, n', D, Pl, hcs, _, hl, hm, hmm, _, hi⟩
  · obtain rfl : c = .slice none 0 0 := by simpa using hcs
    exact ⟨[], .nil w _ f, by simp⟩
  · obtain rfl : c = .slice (some a) len cap := by simpa using hcs
    simp only [if_true] at hmm
    obtain ⟨Z, hZ⟩ := choose_lt (α := List Int) (n := len) (p := fun i z => z.length = P.cellsOf e ∧ (∀ u ∈ z, k.has u) ∧ ∀ j, j < P.cellsOf e → w.cell? ((a.add (i * P.cellsOf e)).add j) = (z.map (Value.int k))[j]?) (fun i hil => by
      obtain ⟨cs', h1, h2⟩ := hi i (by omega)
      obtain ⟨_, hlen, hat⟩ := World.cells?_some h1
      obtain ⟨zs, rfl, hzs⟩ := ints_of (trod_flat n hflat h2)
      exact ⟨zs, by simpa using hlen, hzs, hat⟩)
    refine ⟨(List.range len).map fun i => dec (Z i), ⟨some a, cap, by simp, by simpa using hl, hm, by simp, fun hne => ?_⟩, fun x hx => ?_⟩
    · have hlen : 0 < len := by
        rcases Nat.eq_zero_or_pos len with h0 | h0
        · subst h0; simp at hne
        · exact h0
      obtain ⟨b, o, sp⟩ := a
      have h00 := (hZ 0 hlen).2.2 0 hpos
      have hz0 : ((Z 0).map (Value.int k))[0]? = some (.int k ((Z 0)[0]'(by rw [(hZ 0 hlen).1]; exact hpos))) := by
        rw [List.getElem?_map, List.getElem?_eq_getElem (by rw [(hZ 0 hlen).1]; exact hpos)]; rfl
      rw [hz0] at h00
      have hsp : sp = none := by simpa [Addr.add] using World.cell?_spot h00
      subst hsp
      refine ⟨b, o, rfl, by simpa [Addr.add] using block_lt h00, fun k' x hx j hj => ?_⟩
      have hk' : k' < len := by
        have := (List.getElem?_eq_some_iff.1 hx).1
        simpa using this
      have hxe : x = dec (Z k') := by
        rw [List.getElem?_map, List.getElem?_range hk'] at hx
        simpa using hx.symm
      subst hxe
      rw [hdec _ (hZ k' hk').1, ← (hZ k' hk').2.2 j hj, add_plain, add_plain]
    · obtain ⟨i, hil, rfl⟩ := List.mem_map.1 hx
      have := hZ i (List.mem_range.1 hil)
      exact ⟨Z i, this.1, this.2.1, rfl⟩
end

section
variable {H : Type} {enc : TypeId × Value → H} {w : World}
set_option maxRecDepth 100000 in
/-- The five cells of a lot. -/
theorem open_lot {fuel : Nat} {cs : List Value} {y : DataW H × List MemPlace} (h : DataW.trod enc Try.prog w 0 (fun _ => true) true fuel 49 cs = some y) :
    ∃ x : Lv, cs = encV x ∧ RowIn w x.pv 3 encT x.parts ∧ (Lit.int .i64 x.id).wf = true ∧ ∀ p ∈ x.parts, (Lit.int .i64 p.lot).wf = true := by
  obtain ⟨xs, m, _, _, hl, hxl, hfield⟩ := DataW.trod_struct Try.underlying49 h
  have hl5 : cs.length = 5 := hl.trans (by kernel_rfl)
  obtain ⟨a, b, c, d, e, rfl⟩ := len5 hl5
  have k1 : Try.prog.cellsOf 3 = 1 := by kernel_rfl
  have k2 : Try.prog.cellsOf 32 = 2 := by kernel_rfl
  have k3 : Try.prog.cellsOf 47 = 1 := by kernel_rfl
  have hx : ∀ i, i < 4 → ∃ z, xs[i]? = some z := fun i hi => ⟨_, List.getElem?_eq_getElem (by rw [hxl]; exact hi)⟩
  have q0 : DataW.trod enc Try.prog w 0 (fun _ => true) true m 3 (([a, b, c, d, e].drop 0).take (Try.prog.cellsOf 3)) = xs[0]? := hfield 0 _ rfl
  have q1 : DataW.trod enc Try.prog w 0 (fun _ => true) true m 3 (([a, b, c, d, e].drop 1).take (Try.prog.cellsOf 3)) = xs[1]? := hfield 1 _ rfl
  have q2 : DataW.trod enc Try.prog w 0 (fun _ => true) true m 32 (([a, b, c, d, e].drop 2).take (Try.prog.cellsOf 32)) = xs[2]? := hfield 2 _ rfl
  have q3 : DataW.trod enc Try.prog w 0 (fun _ => true) true m 47 (([a, b, c, d, e].drop 4).take (Try.prog.cellsOf 47)) = xs[3]? := hfield 3 _ rfl
  obtain ⟨z0, e0⟩ := hx 0 (by omega)
  obtain ⟨z1, e1⟩ := hx 1 (by omega)
  obtain ⟨z2, e2⟩ := hx 2 (by omega)
  obtain ⟨z3, e3⟩ := hx 3 (by omega)
  rw [k1, e0] at q0
  rw [k1, e1] at q1
  rw [k2, e2] at q2
  rw [k3, e3] at q3
  obtain ⟨ia, rfl, ha⟩ := trod_flat (k := .i64) 6 (by kernel_rfl) q0 a (by simp)
  obtain ⟨ib, rfl, _⟩ := trod_flat (k := .i64) 6 (by kernel_rfl) q1 b (by simp)
  obtain ⟨ic, rfl, _⟩ := trod_flat (k := .i64) 6 (by kernel_rfl) q2 c (by simp)
  obtain ⟨id, rfl, _⟩ := trod_flat (k := .i64) 6 (by kernel_rfl) q2 d (by simp)
  obtain ⟨l, hR, hl⟩ := open_row1 (k := .i64) Try.underlying47 (show Try.prog.cellsOf 51 = 3 by kernel_rfl) (by decide) 6 (by kernel_rfl) decT encT decT_enc (c := e) (by simpa using q3)
  refine ⟨⟨ia, ib, ic, id, e, l⟩, rfl, hR, wf_of_has ha, fun p hp => ?_⟩
  obtain ⟨x, hx3, hxh, rfl⟩ := hl p hp
  obtain ⟨u, v, y, rfl⟩ := len3 hx3
  exact wf_of_has (hxh u (by simp))
set_option maxRecDepth 100000 in
/-- A slice of lots that came in. -/
theorem open_lots {r : Reach} {b0 : Nat} {v : Value} {d : DataW H} {p : List MemPlace} (hv : Value.okWide Try.prog w r b0 45 v) (h : DataW.Trod enc Try.prog w 0 (fun _ => true) true 45 v d p) : ∃ L : List Lv, LotsIn w v L := by
  obtain ⟨a0, len, cap, rfl⟩ := okWide_slice Try.underlying45 hv
  obtain ⟨fuel, hf⟩ := h
  have hC : Try.prog.cellsOf 49 = 5 := by kernel_rfl
  rcases open_slice Try.underlying45 hf with ⟨hcs, _⟩ | ⟨a, len', cap', m, n', D, Pl, hcs, _, hl, hm, hmm, _, hi⟩
  · simp [Value.cells] at hcs
    obtain ⟨rfl, rfl, rfl⟩ := hcs
    exact ⟨[], .nil w _ _, by simp, by simp, by simp⟩
  · simp [Value.cells] at hcs
    obtain ⟨rfl, rfl, rfl⟩ := hcs
    simp only [if_true] at hmm
    rw [hC] at hi
    obtain ⟨Z, hZ⟩ := choose_lt (α := Lv) (n := len) (p := fun i x => (RowIn w x.pv 3 encT x.parts ∧ (Lit.int .i64 x.id).wf = true ∧ ∀ p ∈ x.parts, (Lit.int .i64 p.lot).wf = true) ∧ ∀ j, j < 5 → w.cell? ((a.add (i * 5)).add j) = (encV x)[j]?) (fun i hil => by
      obtain ⟨cs', h1, h2⟩ := hi i (by omega)
      obtain ⟨_, hlen, hat⟩ := World.cells?_some h1
      obtain ⟨x, rfl, h3⟩ := open_lot h2
      exact ⟨x, h3, hat⟩)
    refine ⟨(List.range len).map Z, ⟨some a, cap, by simp, by simpa using hl, hm, by simp, fun hne => ?_⟩, fun x hx => ?_, fun x hx => ?_, fun x hx => ?_⟩
    · have hlen : 0 < len := by
        rcases Nat.eq_zero_or_pos len with h0 | h0
        · subst h0; simp at hne
        · exact h0
      obtain ⟨b, o, sp⟩ := a
      have h00 := (hZ 0 hlen).2 0 (by omega)
      have hz0 : (encV (Z 0))[0]? = some (.int .i64 (Z 0).id) := rfl
      rw [hz0] at h00
      have hsp : sp = none := by simpa [Addr.add] using World.cell?_spot h00
      subst hsp
      refine ⟨b, o, rfl, by simpa [Addr.add] using block_lt h00, fun k' x hx j hj => ?_⟩
      have hk' : k' < len := by
        have := (List.getElem?_eq_some_iff.1 hx).1
        simpa using this
      have hxe : x = Z k' := by
        rw [List.getElem?_map, List.getElem?_range hk'] at hx
        simpa using hx.symm
      subst hxe
      rw [← (hZ k' hk').2 j hj, add_plain, add_plain]
    · obtain ⟨i, hil, rfl⟩ := List.mem_map.1 hx
      exact (hZ i (List.mem_range.1 hil)).1.1
    · obtain ⟨i, hil, rfl⟩ := List.mem_map.1 hx
      exact (hZ i (List.mem_range.1 hil)).1.2.1
    · obtain ⟨i, hil, rfl⟩ := List.mem_map.1 hx
      exact (hZ i (List.mem_range.1 hil)).1.2.2
end

end Go.Proofs.Ytapfihlfnaebhaa
