/- The general lemmas of this proof: worlds that extend a world, regions that draw their order, contracts whose callee only makes new blocks. -/
import Derived.WalkKit
import Derived.WalkLawsBesides
import Derived.WalkSpells
import Derived.Outline
import Derived.BigQuiet
import Derived.Deep.QuietTactic
import Derived.Lib.Hide
import Derived.StillTail
namespace Go.Proofs.Ytapfihlfnaebhaa
set_option linter.unusedVariables false
set_option linter.unusedSimpArgs false
open Go.RowKit

/-- A world in which nothing of w0 has changed. -/
structure BW (w0 : World) where
  w : World
  h : Below w0.heap.size w0 w

instance {w0 : World} : Nonempty (BW w0) := ⟨⟨w0, Below.refl _ _⟩⟩

theorem BW.cell {w0 : World} (x : BW w0) {b o : Nat} (h : b < w0.heap.size) : x.w.cell? ⟨b, o, none⟩ = w0.cell? ⟨b, o, none⟩ := x.h.cell (p := ⟨b, o, none⟩) h
theorem BW.size {w0 : World} (x : BW w0) : w0.heap.size ≤ x.w.heap.size := x.h.size

/-- The class of worlds for a region that draws its order. -/
def CB (w0 : World) : World → Prop := fun w' => ∃ x : BW w0, w' = x.w

theorem CB.drawn {w0 : World} : CB w0 { w0 with drawn := w0.drawn + 1 } := ⟨⟨w0.drew, (Below.refl _ _).drew⟩, rfl⟩

/-- A callee's contract in such a region. -/
theorem calls_bw {P : Program} {f : FuncId} {args : Array Value} {w0 : World} {v : Value} (h : ∀ w, Calls P f args w fun e w' => e = .returned v ∧ Below w.heap.size w w') (x : BW w0) :
    Calls P f args x.w fun e w'' => e = .returned v ∧ ∃ y : BW w0, w'' = y.w :=
  (h x.w).mono fun _ w'' ⟨he, hb⟩ => ⟨he, ⟨w'', x.h.trans (hb.mono x.h.size)⟩, rfl⟩

theorem wp_region_calm {P : Program} {id : Nat} {Q : Exit → Act → World → Prop} {a : Act} {w0 : World} {l : List Oper} (hm : P.follows .mixedOrders = true) (hB : Region.lexB .any l.toArray = true)
    (h : wpQuiet P l.toArray (fun w' => ∃ x : BW w0, w' = x.w) (fun a' => ∀ w', Below w0.heap.size w0 w' → Q .normal a' w') l a) : (Code.region id l.toArray true).wp P Q a w0 :=
  wp_region_quiet (C := fun w' => ∃ x : BW w0, w' = x.w) hm hB CB.drawn (by
    have : (fun a' => ∀ w', Below w0.heap.size w0 w' → Q .normal a' w') = (fun a' => ∀ w', (∃ x : BW w0, w' = x.w) → Q .normal a' w') := by
      funext a'
      exact propext ⟨fun h w' ⟨x, hx⟩ => hx ▸ h _ x.h, fun h w' hb => h w' ⟨⟨w', hb⟩, rfl⟩⟩
    rw [← this]
    simpa using h)

/-! ### A drawn region whose last operations write: the head (loads, sums, calls that only make new blocks) is walked once, in the order of the text; the tail, which waits for all of it, behind it. -/
section tail
variable {P : Program} {ops : Array Oper} {C : World → Prop}

/-- Whatever order is picked, f operations of the first n come up, each of one value in every world of the class; then L. -/
def headQ (P : Program) (ops : Array Oper) (C : World → Prop) (n : Nat) (L : Array Bool → Act → Prop) : Nat → Array Bool → Act → Prop
  | 0, d, a => L d a
  | f + 1, d, a => Region.ready .any ops d ≠ [] ∧ ∀ i ∈ Region.ready .any ops d, i < n ∧ qOp P ops C i (headQ P ops C n L f (d.setIfInBounds i true)) a

theorem any_of_headQ {n g : Nat} {L : Array Bool → Act → Prop} {Q : Exit → Act → World → Prop} (hL : ∀ d a w, C w → L d a → wpAny P .any ops Q g d a w) (f : Nat) :
    ∀ (d : Array Bool) (a : Act) (w : World), C w → headQ P ops C n L f d a → wpAny P .any ops Q (f + g) d a w := by
  induction f with
  | zero => intro d a w hw h; rw [Nat.zero_add]; exact hL _ _ _ hw h
  | succ f ih =>
    intro d a w hw h
    rw [Nat.succ_add]
    exact ⟨fun h0 => absurd h0 h.1, fun i hi => wpOp_of_qOp hw (fun a' w' hw' h' => ih _ a' w' hw' h') (h.2 i hi).2⟩

theorem headQ_first {n i : Nat} {oi : Oper} {v : Value} {L : Array Bool → Act → Prop} (ho : ops[i]? = some oi) (hin : i < n) (hn : n < ops.size) (hsel : Region.noSelect ops = true)
    (hs : Region.sinkB .any ops n = true) (hc : Region.chainB .any ops n = true) (hL : ∀ d a, L d a → ∀ j ∈ Region.ready .any ops d, n ≤ j) (f : Nat) :
    ∀ (d : Array Bool) (a : Act), HeadInv .any ops n d → i ∈ Region.ready .any ops d → YieldsIn P ops C oi v a →
      (∀ j oj, ops[j]? = some oj → j ≠ i → d.getD j true = false → (∀ e ∈ oj.after, Region.binds .any e = true → e.on ≠ i) → oi.apart ops oj = true) →
      headQ P ops C n L f (d.setIfInBounds i true) (a.put oi.dst v) → headQ P ops C n L (f + 1) d a := by
  have nosel := Region.noSelect_spec hsel
  induction f with
  | zero =>
    intro d a inv hr hy _ H
    have hun := (mem_ready.1 hr).1
    refine ⟨List.ne_nil_of_mem hr, fun j hj => ?_⟩
    have hjn : j < n := Nat.lt_of_not_le fun hge => tail_waits hs hc hn inv _ i rfl hin hun j hge hj
    by_cases hji : j = i
    · subst hji; exact ⟨hjn, hy.qOp ho H⟩
    · exact absurd (hL _ _ H j (ready_mono hj hji)) (by omega)
  | succ f ih =>
    intro d a inv hr hy hfree H
    have hun := (mem_ready.1 hr).1
    refine ⟨List.ne_nil_of_mem hr, fun j hj => ?_⟩
    have hjn : j < n := Nat.lt_of_not_le fun hge => tail_waits hs hc hn inv _ i rfl hin hun j hge hj
    by_cases hji : j = i
    · subst hji; exact ⟨hjn, hy.qOp ho H⟩
    refine ⟨hjn, ?_⟩
    obtain ⟨hjun, oj, hoj, hall⟩ := mem_ready.1 hj
    have hap : oi.apart ops oj = true := hfree j oj hoj hji hjun fun e he hb heq => by
      have := hall e he hb
      rw [heq, getD_both hun] at this
      cases this
    refine qOp_mono (fun a' h' => ih _ a' (inv.set hj hjn) (ready_mono hr (Ne.symm hji)) h'.1 (fun k ok hk hki hku hkw => hfree k ok hk hki ?_ hkw) ?_)
      (qOp_put hoj hap (fun cs b => nosel i oi cs b ho) (fun cs b => nosel j oj cs b hoj) hy (H.2 j (ready_mono hj hji)).2)
    · by_cases hjk : j = k
      · exact hjk ▸ hjun
      · rwa [getD_set_ne true hjk] at hku
    · rw [Array.setIfInBounds_comm _ _ hji]; exact h'.2

theorem headQ_lex {n g : Nat} {R : Act → Prop} (hn : n < ops.size) (hsel : Region.noSelect ops = true) (hs : Region.sinkB .any ops n = true) (hc : Region.chainB .any ops n = true) (l : List Oper) :
    ∀ (k : Nat) (d : Array Bool) (a : Act), (∀ j, j < l.length → l[j]? = ops[k + j]?) → k + l.length = n → HeadInv .any ops n d → Region.lexHead .any ops g l.length k d = true →
      wpQuiet P ops C R l a → headQ P ops C n (fun d' a' => Region.seqB .any ops g n d' = true ∧ R a') l.length d a := by
  induction l with
  | nil =>
    intro k d a _ hk _ hB h
    obtain rfl : k = n := by simpa using hk
    exact ⟨by simpa [Region.lexHead] using hB, h⟩
  | cons o l ih =>
    intro k d a hl hk inv hB h
    have ho : ops[k]? = some o := by simpa using (hl 0 (by simp)).symm
    simp only [List.length_cons, Region.lexHead, Bool.and_eq_true] at hB hk
    have hr : k ∈ Region.ready .any ops d := by simpa using hB.1.1
    have hkn : k < n := by omega
    obtain ⟨v, hy, hK⟩ := yieldsIn_of_qOp (K := wpQuiet P ops C R l) ho (by unfold qOp; simp only [ho]; exact h)
    exact headQ_first ho hkn hn hsel hs hc (fun d' a' hL => seqB_ready hL.1) l.length d a inv hr hy (Region.free_spec ho hB.1.2)
      (ih (k + 1) _ _ (fun j hj => by have := hl (j + 1) (by simp; omega); simpa [Nat.add_assoc, Nat.add_comm 1 j] using this) (by omega) (inv.set hr hkn) hB.2 hK)

theorem wp_region_calm_tail {id : Nat} {Q : Exit → Act → World → Prop} {a : Act} {w0 : World} {l : List Oper} (n : Nat) (hm : P.follows .mixedOrders = true) (hB : Region.lexTailB .any l.toArray n = true)
    (h : wpQuiet P l.toArray (fun w' => ∃ x : BW w0, w' = x.w) (fun a' => ∀ w', Below w0.heap.size w0 w' → wpList P l.toArray Q (l.drop n) a' w') (l.take n) a) : (Code.region id l.toArray true).wp P Q a w0 := by
  simp only [Region.lexTailB, Bool.and_eq_true, decide_eq_true_eq] at hB
  obtain ⟨⟨⟨⟨hsel, hn⟩, hs⟩, hc⟩, hlex⟩ := hB
  have htl : (l.take n).length = n := by simp at hn ⊢; omega
  have hdl : (l.drop n).length = l.toArray.size - n := by simp
  have inv0 : HeadInv .any l.toArray n (Array.replicate l.toArray.size false) :=
    ⟨by simp, fun j oj _ hl => (by rw [getD_replicate_false] at hl; cases hl), fun t _ ht => getD_in (by simpa using ht) (getD_replicate_false _ _)⟩
  have H := headQ_lex (g := l.toArray.size - n) hn hsel hs hc (l.take n) 0 _ a (fun j hj => by rw [htl] at hj; simp [hj]) (by simpa using htl) inv0 (by rw [htl]; exact hlex) h
  rw [htl] at H
  refine wp_region_any hm ?_
  have key := any_of_headQ (P := P) (ops := l.toArray) (C := fun w' => ∃ x : BW w0, w' = x.w) (n := n) (g := l.toArray.size - n) (Q := Q)
    (L := fun d' a' => Region.seqB .any l.toArray (l.toArray.size - n) n d' = true ∧ ∀ w', Below w0.heap.size w0 w' → wpList P l.toArray Q (l.drop n) a' w')
    (fun d a' w' hw' hL => by
      obtain ⟨x, rfl⟩ := hw'
      have := wpAny_of_seq (P := P) (ops := l.toArray) (md := .any) (Q' := Q) (l.drop n) n d a' x.w (fun j => by simp [List.getElem?_drop]) (by rw [hdl]; exact hL.1) (hL.2 x.w x.h)
      rwa [hdl] at this) n _ a _ CB.drawn H
  rwa [show n + (l.toArray.size - n) = l.toArray.size by omega] at key
end tail

theorem bcell {W w1 : World} (hb : Below W.heap.size W w1) : (∀ b o, b < W.heap.size → w1.cell? ⟨b, o, none⟩ = W.cell? ⟨b, o, none⟩) ∧ (∀ b o, b < W.heap.size → w1.frozen? ⟨b, o, none⟩ = W.frozen? ⟨b, o, none⟩) :=
  ⟨fun b o h => hb.cell (p := ⟨b, o, none⟩) h, fun b o h => hb.frozen (p := ⟨b, o, none⟩) h⟩

/-! ### A block of cells that is known whole -/
/-- Block g of w is just the cells cs (of type t), none of them frozen. -/
def Blk (w : World) (g : Nat) (t : TypeId) (cs : Array Value) : Prop := w.heap[g]? = some (.cells cs t (0, 0))
section blk
variable {w w' : World} {g : Nat} {t : TypeId} {cs : Array Value}
theorem Blk.lt (h : Blk w g t cs) : g < w.heap.size := by
  rcases Nat.lt_or_ge g w.heap.size with h1 | h1
  · exact h1
  · unfold Blk at h; simp [Array.getElem?_eq_none h1] at h
theorem Blk.cell (h : Blk w g t cs) (i : Nat) : w.cell? ⟨g, i, none⟩ = cs[i]? := by
  unfold Blk at h; simp [World.cell?, h]
theorem Blk.free (h : Blk w g t cs) (i : Nat) : w.frozen? ⟨g, i, none⟩ = false := by
  unfold Blk at h; simp [World.frozen?, h]
theorem Blk.new (w : World) (t : TypeId) (cs : Array Value) : Blk (w.alloc (.cells cs t)) w.heap.size t cs := by
  show (w.heap.push _)[w.heap.size]? = _; simp
theorem Blk.alloc (h : Blk w g t cs) (o : Obj) : Blk (w.alloc o) g t cs := (Below.heap_alloc w o g h.lt).trans h
theorem Blk.step (h : Blk w g t cs) (hb : Below w.heap.size w w') : Blk w' g t cs := (hb.block g h.lt).trans h
theorem Blk.drew (h : Blk w g t cs) : Blk w.drew g t cs := h
theorem Blk.bw (h : Blk w g t cs) (x : BW w) : Blk x.w g t cs := h.step x.h
theorem Blk.put (h : Blk w g t cs) (i : Nat) (u : Value) : Blk (w.setCell ⟨g, i, none⟩ u) g t (cs.setIfInBounds i u) := by
  unfold Blk at h ⊢; simp [World.setCell, Array.getElem?_modify, h]
theorem Blk.far (h : Blk w g t cs) {p : Addr} (hp : g ≠ p.block) (u : Value) : Blk (w.setCell p u) g t cs := (Below.heap_setCell w p u g hp).trans h
end blk

end Go.Proofs.Ytapfihlfnaebhaa
