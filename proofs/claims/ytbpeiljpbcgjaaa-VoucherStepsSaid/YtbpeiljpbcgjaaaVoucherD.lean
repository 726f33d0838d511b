/- Contracts: Redeem and Issue of a book. -/
import Derived.Test.YtbpeiljpbcgjaaaVoucherC
import Derived.OneCell
namespace Go.Proofs.Ytbpeiljpbcgjaaa
set_option linter.unusedVariables false
set_option linter.unusedSimpArgs false
open Go.RowKit


set_option maxHeartbeats 1000000 in
theorem redeem_any {w : World} {base b : Nat} {sv : Value} {B : Bk} (hB : Holds w base b sv B) (hok : BkOk B) (n t : Int) :
    Calls Try.prog 21 #[.pointer (some ⟨b, 0, none⟩), .int .i64 n, .int .i64 t] w fun e w' => e = .returned (.tuple #[.int .i64 (redV B n t), .int .i64 (redE B n t)]) ∧ Holds w' base b sv (redB B n t) ∧ FrT base TB w w' := by
  have hE : redE B n t = if momE B t ≠ 0 then momE B t else if n < 1 ∨ n > B.es.length then 7 else if (entAt B n).red then 28 else if t ≥ (entAt B n).til then 31 else 0 := rfl
  have hV : redV B n t = if redE B n t = 0 then (entAt B n).amt else 0 := rfl
  have hR : redB B n t = if redE B n t = 0 then { B with es := B.es.set (n - 1).toNat { entAt B n with red := true }, now := t } else B := rfl
  have c0 := hB.blk.cell
  have l0 := hB.blk.lt
  have f0 := hB.blk.free
  have hn := hok.len
  have hmo := fun h => momE_ok (b := B) (t := t) h
  by_cases hm : momE B t = 0
  · obtain ⟨t1, t2, t3⟩ := hmo hm
    rw [if_neg (by simp [hm])] at hE
    by_cases h1 : n < 1
    · rw [if_pos (.inl h1)] at hE
      rw [hE, if_neg (by decide)] at hV hR
      go_enter Try.func21, Try.ntmps21
      go_wp2_with (go_at_call 29; refine (moment_any hB t).mono ?_; rintro e w' ⟨rfl, rfl⟩; rw [hm])
      go_ret2
      refine ⟨by rw [hV, hE]; rfl, by rw [hR]; exact hB, FrT.refl _ _ _⟩
    by_cases h2 : n > B.es.length
    · rw [if_pos (.inr h2)] at hE
      rw [hE, if_neg (by decide)] at hV hR
      rcases ownsRow_open hB.own with ⟨rfl, hn0, _⟩ | ⟨g, cap, cur, rfl, hg, hgb, hcap, hcm, hcs, hcur⟩
      · rw [hn0] at h2
        go_enter Try.func21, Try.ntmps21
        go_wp2_with (go_at_call 29; refine (moment_any hB t).mono ?_; rintro e w' ⟨rfl, rfl⟩; rw [hm])
        go_ret2
        refine ⟨by rw [hV, hE]; rfl, by rw [hR]; exact hB, FrT.refl _ _ _⟩
      · go_enter Try.func21, Try.ntmps21
        go_wp2_with (go_at_call 29; refine (moment_any hB t).mono ?_; rintro e w' ⟨rfl, rfl⟩; rw [hm])
        go_ret2
        refine ⟨by rw [hV, hE]; rfl, by rw [hR]; exact hB, FrT.refl _ _ _⟩
    rw [if_neg (by omega)] at hE
    rcases ownsRow_open hB.own with ⟨rfl, hn0, _⟩ | ⟨g, cap, cur, rfl, hg, hgb, hcap, hcm, hcs, hcur⟩
    · omega
    obtain ⟨k, rfl⟩ : ∃ k : Nat, n = k + 1 := ⟨(n - 1).toNat, by omega⟩
    have hk : k < B.es.length := by omega
    obtain ⟨x, hx⟩ : ∃ x, B.es[k]? = some x := ⟨_, List.getElem?_eq_getElem hk⟩
    have hxa : entAt B ((k : Int) + 1) = x := by
      unfold entAt
      rw [List.getD_eq_getElem?_getD, show ((k : Int) + 1 - 1).toNat = k by omega, hx]; rfl
    rw [hxa] at hE hV hR
    rw [show ((k : Int) + 1 - 1).toNat = k by omega] at hR
    have e0 : World.cell? w ⟨g, k * 6, none⟩ = some (.int .i64 (x).num) := rowCell encE_len hgb hcur hx 0 (by omega); have e1 : World.cell? w ⟨g, k * 6 + 1, none⟩ = some (.int .i64 (x).mach) := rowCell encE_len hgb hcur hx 1 (by omega); have e2 : World.cell? w ⟨g, k * 6 + 2, none⟩ = some (.int .i64 (x).amt) := rowCell encE_len hgb hcur hx 2 (by omega); have e3 : World.cell? w ⟨g, k * 6 + 3, none⟩ = some (.int .i64 (x).at_) := rowCell encE_len hgb hcur hx 3 (by omega); have e4 : World.cell? w ⟨g, k * 6 + 4, none⟩ = some (.int .i64 (x).til) := rowCell encE_len hgb hcur hx 4 (by omega); have e5 : World.cell? w ⟨g, k * 6 + 5, none⟩ = some (.bool (x).red) := rowCell encE_len hgb hcur hx 5 (by omega)
    have fG := hgb.free
    have lG := hgb.lt
    have hi1 : (0 : Int) ≤ k := by omega
    have hi2 : (k : Int) < B.es.length := by omega
    by_cases h3 : x.red = true
    · rw [if_pos h3] at hE
      rw [hE, if_neg (by decide)] at hV hR
      go_enter Try.func21, Try.ntmps21
      go_wp2_with (go_at_call 29; refine (moment_any hB t).mono ?_; rintro e w' ⟨rfl, rfl⟩; rw [hm])
      go_ret2
      refine ⟨by rw [hV, hE]; rfl, by rw [hR]; exact hB, FrT.refl _ _ _⟩
    rw [if_neg h3] at hE
    by_cases h4 : t ≥ x.til
    · rw [if_pos h4] at hE
      rw [hE, if_neg (by decide)] at hV hR
      go_enter Try.func21, Try.ntmps21
      go_wp2_with (go_at_call 29; refine (moment_any hB t).mono ?_; rintro e w' ⟨rfl, rfl⟩; rw [hm])
      go_ret2
      refine ⟨by rw [hV, hE]; rfl, by rw [hR]; exact hB, FrT.refl _ _ _⟩
    rw [if_neg h4] at hE
    rw [hE, if_pos rfl] at hV hR
    have hgne : g ≠ b := fun e => by
      have h1 := hB.blk
      unfold Blk at h1 hgb
      rw [← e, hgb] at h1
      cases h1
    go_enter Try.func21, Try.ntmps21
    go_wp2_with (go_at_call 29; refine (moment_any hB t).mono ?_; rintro e w' ⟨rfl, rfl⟩; rw [hm])
    go_ret2
    have hrow := (hB.own.stored (k * 6 + 5) (.bool true)).1
    rw [rowOf_set (k := 6) encE_len 5 (.bool true) (by omega) B.es k x { x with red := true } hx (by rfl)] at hrow
    refine ⟨by rw [hV, hE]; rfl, ?_, ?_⟩
    · rw [hR]
      refine ⟨hB.hb, (hB.blk.far (p := ⟨g, k * 6 + 5, none⟩) (Ne.symm hgne) _).put 1 _, ?_⟩
      have h9 := ownsRow_setCell_other (a := ⟨b, 1, none⟩) hrow (by simp [Value.ownBlock, hgne]) (.int .i64 t)
      simpa using h9
    · exact ((FrT.refl _ _ _).setOld (p := ⟨g, k * 6 + 5, none⟩) hg hgb rfl _).setOld (p := ⟨b, 1, none⟩) hB.hb hB.blk rfl _
  · rw [if_pos hm] at hE
    rw [hE, if_neg hm] at hV hR
    generalize hE' : momE B t = E at hm hE ⊢
    go_enter Try.func21, Try.ntmps21
    go_wp2_with (go_at_call 29; refine (moment_any hB t).mono ?_; rintro e w' ⟨rfl, rfl⟩; rw [hE'])
    go_ret2
    refine ⟨by rw [hV, hE]; rfl, by rw [hR]; exact hB, FrT.refl _ _ _⟩

end Go.Proofs.Ytbpeiljpbcgjaaa
