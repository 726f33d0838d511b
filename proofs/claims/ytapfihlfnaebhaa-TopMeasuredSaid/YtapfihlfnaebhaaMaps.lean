/- Maps keyed by ints that a call makes, told as functions: look-ups, stores and sizes. -/
import Derived.Test.YtapfihlfnaebhaaKit
import Derived.Maps.Own
import Derived.Maps.OwnOps
import Derived.Maps.OwnSet
import Derived.Maps.Views
namespace Go.Proofs.Ytapfihlfnaebhaa
set_option linter.unusedVariables false
set_option linter.unusedSimpArgs false
open Go.RowKit Go.ChangeMaps

/-- How an element of a map is kept: its value, and what it reads as. -/
structure Elem (α : Type) where
  val : α → Value
  dat : α → DataW Unit
  inj : ∀ a b, val a = val b → a = b
  dinj : ∀ a b, dat a = dat b → a = b
section
variable {α : Type} (E : Elem α)
open Classical in
noncomputable def Elem.R (v : Value) : Option (DataW Unit × List MemPlace) := if h : ∃ a, v = E.val a then some (E.dat (Classical.choose h), []) else none
theorem Elem.R_val (a : α) : E.R (E.val a) = some (E.dat a, []) := by
  have h : ∃ b, E.val a = E.val b := ⟨a, rfl⟩
  have := E.inj _ _ (Classical.choose_spec h)
  unfold Elem.R
  rw [dif_pos h, ← this]
theorem Elem.R_inv {v : Value} {z : DataW Unit × List MemPlace} (h : E.R v = some z) : ∃ a, v = E.val a ∧ z = (E.dat a, []) := by
  unfold Elem.R at h
  split at h
  · rename_i hv
    exact ⟨_, Classical.choose_spec hv, (Option.some.inj h).symm⟩
  · cases h
end
def eInt : Elem Int := ⟨fun a => .int .i64 a, fun a => .lit (.int .i64 a), fun a b h => by injection h, fun a b h => by injection h with h; injection h⟩
def eBool : Elem Bool := ⟨fun a => .bool a, fun a => .lit (.bool a), fun a b h => by injection h, fun a b h => by injection h with h; injection h⟩

/-- Block b is a map of at most n entries, s of them just, whose entry at key x is f x. -/
def MapIs {α : Type} (w : World) (P : Program) (k : TypeId) (E : Elem α) (b n : Nat) (f : Int → Option α) (s : Nat) : Prop :=
  ∃ D : DataW Unit, w.ownsMap P k E.R b n D ∧ Maps.Tidy D ∧ Maps.size D = s ∧
    ∀ x, Maps.has D (.int .i64 x) = (f x).isSome ∧ ∀ z, D.atKey (.int .i64 x) z = match f x with | some a => E.dat a | none => z
section
variable {α : Type} {E : Elem α} {w : World} {P : Program} {k : TypeId} {b n s : Nat} {f : Int → Option α}
theorem MapIs.made (w : World) (P : Program) (k : TypeId) (E : Elem α) : MapIs (w.alloc (.map #[] 0)) P k E w.heap.size 0 (fun _ => none) 0 :=
  ⟨.map [], World.ownsMap_made _ _ _ _, Maps.tidy_empty, rfl, fun x => ⟨rfl, fun z => rfl⟩⟩
theorem MapIs.lt (h : MapIs w P k E b n f s) : b < w.heap.size := by obtain ⟨D, h, _⟩ := h; exact h.lt
theorem MapIs.mono (h : MapIs w P k E b n f s) {n' : Nat} (hn : n ≤ n') : MapIs w P k E b n' f s := by
  obtain ⟨D, h1, h2⟩ := h; exact ⟨D, h1.mono hn, h2⟩
theorem MapIs.kept {w' : World} {row : Option Nat} (h : MapIs w P k E b n f s) (hg : w.grownBy w' row) (hne : some b ≠ row) : MapIs w' P k E b n f s := by
  obtain ⟨D, h1, h2⟩ := h; exact ⟨D, h1.kept hg hne, h2⟩
theorem MapIs.alloc (h : MapIs w P k E b n f s) (o : Obj) : MapIs (w.alloc o) P k E b n f s := by
  obtain ⟨D, h1, h2⟩ := h; exact ⟨D, h1.alloc o, h2⟩
theorem MapIs.step {w' : World} (h : MapIs w P k E b n f s) (hb : Below w.heap.size w w') : MapIs w' P k E b n f s := by
  have hlt := h.lt
  obtain ⟨D, ⟨es, clock, h1, h2⟩, h3⟩ := h
  exact ⟨D, ⟨es, clock, (hb.block b hlt).trans h1, h2⟩, h3⟩
theorem MapIs.far (h : MapIs w P k E b n f s) {p : Addr} (hp : b ≠ p.block) (u : Value) : MapIs (w.setCell p u) P k E b n f s := by
  obtain ⟨D, h1, h2⟩ := h; exact ⟨D, h1.setCell hp u, h2⟩
theorem MapIs.drew (h : MapIs w P k E b n f s) : MapIs w.drew P k E b n f s := h

variable {ops : Array Oper} {rest : List Oper} {o : Oper} {a : Act} {Q : Exit → Act → World → Prop}
theorem wpList_lookup_map (hg : o.guard = none) (m x : Operand) (t : TypeId) (hop : o.op = Op.lookup t m x false) (e : TypeId) (hk : P.underlying k = some (.int .i64)) (ht : P.underlying t = some (.map k e))
    (z : α) (hz : (zeroValue e).run P w = .ok (E.val z) w) (hm : a.eval m = .map (some b)) (h : MapIs w P k E b n f s) (key : Int) (hx : a.eval x = .int .i64 key) (hw : (Lit.int .i64 key).wf = true)
    (hK : wpList P ops Q rest (a.put o.dst (E.val ((f key).getD z))) w) : wpList P ops Q (o :: rest) a w := by
  obtain ⟨D, h1, h2, h3, h4⟩ := h
  obtain ⟨v, ps, hrun, hv⟩ := h1.lookup (Maps.int_keyed hk) ht hz (E.R_val z) (Maps.keyOf_int_mk hk hw)
  obtain ⟨c, rfl, hc⟩ := E.R_inv hv
  have hat := (h4 key).2 (E.dat z)
  have hcz : c = (f key).getD z := by
    refine E.dinj _ _ ?_
    have : D.atKey (.int .i64 key) (E.dat z) = E.dat c := congrArg Prod.fst hc
    rw [← this, hat]
    cases f key <;> rfl
  subst hcz
  refine wpList_plain hg fun K' hK' => ?_
  unfold Oper.wp
  simp [execOp, hop, hm, hx, hrun, Result.andThen]
  exact hK' _ _ hK
theorem wpList_lookup_map_ok (hg : o.guard = none) (m x : Operand) (t : TypeId) (hop : o.op = Op.lookup t m x true) (e : TypeId) (hk : P.underlying k = some (.int .i64)) (ht : P.underlying t = some (.map k e))
    (z : α) (hz : (zeroValue e).run P w = .ok (E.val z) w) (hm : a.eval m = .map (some b)) (h : MapIs w P k E b n f s) (key : Int) (hx : a.eval x = .int .i64 key) (hw : (Lit.int .i64 key).wf = true)
    (hK : wpList P ops Q rest (a.put o.dst (.tuple #[E.val ((f key).getD z), .bool (f key).isSome])) w) : wpList P ops Q (o :: rest) a w := by
  obtain ⟨D, h1, h2, h3, h4⟩ := h
  obtain ⟨v, ps, hrun, hv⟩ := h1.look_ok (Maps.int_keyed hk) ht hz (E.R_val z) (Maps.keyOf_int_mk hk hw)
  obtain ⟨c, rfl, hc⟩ := E.R_inv hv
  have hat := (h4 key).2 (E.dat z)
  have hcz : c = (f key).getD z := by
    refine E.dinj _ _ ?_
    have : D.atKey (.int .i64 key) (E.dat z) = E.dat c := congrArg Prod.fst hc
    rw [← this, hat]
    cases f key <;> rfl
  subst hcz
  rw [(h4 key).1] at hrun
  refine wpList_plain hg fun K' hK' => ?_
  unfold Oper.wp
  simp [execOp, hop, hm, hx, hrun, Result.andThen]
  exact hK' _ _ hK
theorem wpList_update_map (hg : o.guard = none) (m x v : Operand) (t : TypeId) (hop : o.op = Op.mapUpdate t m x v) (e : TypeId) (hk : P.underlying k = some (.int .i64)) (ht : P.underlying t = some (.map k e))
    (hm : a.eval m = .map (some b)) (h : MapIs w P k E b n f s) (hn : n < maxLen) (key : Int) (u : α) (hx : a.eval x = .int .i64 key) (hv : a.eval v = E.val u) (hw : (Lit.int .i64 key).wf = true)
    (hK : ∀ w', MapIs w' P k E b (n + 1) (fun y => if y = key then some u else f y) (if (f key).isSome = true then s else s + 1) → w.grownBy w' (some b) → wpList P ops Q rest (a.put o.dst undef) w') : wpList P ops Q (o :: rest) a w := by
  obtain ⟨D, h1, h2, h3, h4⟩ := h
  have hkl : WideAt.IsKeyLit (Lit.int .i64 key) := by simp [WideAt.IsKeyLit]
  refine wpList_mapUpdate_own w hg m x v t hop k e (Maps.int_keyed hk) ht E.R b n D hm h1 hn _ _ (.int .i64 key) hx hv (Maps.keyOf_int_mk hk hw) (E.dat u) [] (E.R_val u) fun w' o1 g1 => hK w' ⟨D.put (.int .i64 key) (E.dat u), o1, h2.put hkl _, ?_, fun y => ?_⟩ g1
  · rw [Maps.size_put h2, (h4 key).1, h3]
  · by_cases hy : y = key
    · subst hy
      dsimp only
      rw [if_pos rfl]
      exact ⟨Maps.has_put_same h2.isMap hkl _, fun z => Maps.atKey_put_same h2.isMap hkl _ z⟩
    · have hne : (Lit.int .i64 y) ≠ (Lit.int .i64 key) := fun h => hy (by injection h)
      dsimp only
      rw [if_neg hy]
      exact ⟨(Maps.has_put_other hne _).trans (h4 y).1, fun z => (Maps.atKey_put_other hne _ z).trans ((h4 y).2 z)⟩
theorem wpList_len_map (hg : o.guard = none) (m : Operand) (t : TypeId) (hop : o.op = Op.call { callee := Callee.builtin Builtin.len, args := #[m], argTypes := #[t] }) (e : TypeId) (ht : P.underlying t = some (.map k e))
    (hm : a.eval m = .map (some b)) (h : MapIs w P k E b n f s) (hK : wpList P ops Q rest (a.put o.dst (.int .i64 s)) w) : wpList P ops Q (o :: rest) a w := by
  obtain ⟨D, h1, h2, h3, h4⟩ := h
  refine wpList_len_own w hg m t hop k e ht E.R b n D hm h1 ?_
  rw [h3]
  exact hK
end

end Go.Proofs.Ytapfihlfnaebhaa
