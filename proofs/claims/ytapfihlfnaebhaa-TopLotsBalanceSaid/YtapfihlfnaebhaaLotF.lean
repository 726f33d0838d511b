/- Contract: Left of the program. -/
import Derived.Test.YtapfihlfnaebhaaLotE
import Derived.Deep.RegionHeld3
namespace Go.Proofs.Ytapfihlfnaebhaa
set_option linter.unusedVariables false
set_option linter.unusedSimpArgs false
open Go.RowKit

theorem MapIs.run_look {α : Type} {E : Elem α} {w : World} {P : Program} {k t e : TypeId} {b n s : Nat} {f : Int → Option α} (h : MapIs w P k E b n f s) (hk : P.underlying k = some (.int .i64)) (ht : P.underlying t = some (.map k e))
    (z : α) (hz : (zeroValue e).run P w = .ok (E.val z) w) (key : Int) (hw : (Lit.int .i64 key).wf = true) : (Instr.lookup t (.map (some b)) (.int .i64 key) false).run P w = .ok (E.val ((f key).getD z)) w := by
  obtain ⟨D, h1, h2, h3, h4⟩ := h
  obtain ⟨v, ps, hrun, hv⟩ := h1.lookup (Maps.int_keyed hk) ht hz (E.R_val z) (Maps.keyOf_int_mk hk hw)
  obtain ⟨c, rfl, hc⟩ := E.R_inv hv
  have hat := (h4 key).2 (E.dat z)
  have hcz : c = (f key).getD z := by
    refine E.dinj _ _ ?_
    have : D.atKey (.int .i64 key) (E.dat z) = E.dat c := congrArg Prod.fst hc
    rw [← this, hat]
    cases f key <;> rfl
  subst hcz
  exact hrun
def lefE (L : List Lv) (id : Int) : Int := if chkL L ≠ 0 then chkL L else if kn L L.length id = none then 7 else 0
def lefS (L : List Lv) (id : Int) : Sp := if lefE L id = 0 then restS (L.getD ((kn L L.length id).getD 0).toNat lv0) (tk L id) else sp0
/-- What a list without errors meets. -/
theorem chkL_ok {L : List Lv} (h : chkL L = 0) : ¬ L.length > 512 ∧ lotsE L L.length = 0 ∧ nodup L L.length = true ∧ overE L L.length = 0 := by
  unfold chkL at h
  split at h
  · omega
  split at h
  · rename_i h1; exact absurd h h1
  split at h
  · omega
  rename_i h1 h2 h3
  exact ⟨h1, by simpa using h2, by simpa using h3, h⟩
theorem lot_ok {L : List Lv} (h : lotsE L L.length = 0) {k : Nat} (hk : k < L.length) : 1 ≤ (L.getD k lv0).id ∧ (L.getD k lv0).id ≤ 1000000 ∧ 0 ≤ (L.getD k lv0).mat ∧ (L.getD k lv0).mat < 16 ∧ (0 ≤ (L.getD k lv0).lo ∧ (L.getD k lv0).lo ≤ (L.getD k lv0).hi ∧ (L.getD k lv0).hi ≤ 70368744177664) ∧ (L.getD k lv0).parts.length ≤ 8 :=
  headE_ok (oneE_ok (lotsE_at h k hk).2).1
theorem look_T {w : World} {b n s : Nat} {f : Int → Option Sp} {L : List Lv} {T : Sp} {id : Int} (hm : MapIs w Try.prog 3 eSp b n f s) (hf : ∀ y, (f y).getD sp0 = tk L y) (hT : T = tk L id) (hid : (Lit.int .i64 id).wf = true) :
    (Instr.lookup 84 (.map (some b)) (.int .i64 id) false).run Try.prog w = .ok (.agg #[.int .i64 T.lo, .int .i64 T.hi]) w := by
  rw [hm.run_look (e := 32) Try.underlying3 Try.underlying84 sp0 (zeroS _) id hid, hf id, hT]
  rfl

end Go.Proofs.Ytapfihlfnaebhaa
