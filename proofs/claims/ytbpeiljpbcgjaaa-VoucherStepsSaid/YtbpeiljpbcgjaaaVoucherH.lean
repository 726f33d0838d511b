/- Contract: the reference's Redeem. -/
import Derived.Test.YtbpeiljpbcgjaaaVoucherG
import Derived.OneCell
namespace Go.Proofs.Ytbpeiljpbcgjaaa
set_option linter.unusedVariables false
set_option linter.unusedSimpArgs false
open Go.RowKit


/-- The row v is v0, or lies in new memory. -/
def Fresh (w : World) (v0 v : Value) : Prop := v = v0 ∨ ∀ j, v.ownBlock = some j → w.heap.size ≤ j
def rredOut (w : World) (B : Bk) (vs0 rs0 : Value) (n t : Int) (e : Ending) (w' : World) : Prop :=
  ∃ v vs rs, e = .returned (.tuple #[v, .int .i64 (redV B n t), .int .i64 (redE B n t)]) ∧ RHolds w' v (redB B n t) vs rs ∧ Below w.heap.size w w' ∧ Fresh w vs0 vs ∧ Fresh w rs0 rs

theorem rredeem_no {w : World} {v vs rs : Value} {B : Bk} (hB : RHolds w v B vs rs) (hok : BkOk B) (n t : Int) (hne : redE B n t ≠ 0) :
    Calls Try.prog 24 #[v, .int .i64 n, .int .i64 t] w (rredOut w B vs rs n t) := by
  obtain ⟨rfl, hv, hr⟩ := hB
  have hE : redE B n t = if momE B t ≠ 0 then momE B t else if n < 1 ∨ n > B.es.length then 7 else if (entAt B n).red then 28 else if t ≥ (entAt B n).til then 31 else 0 := rfl
  have hM : momE B t = if t < 0 ∨ t > 3155759999 then 1 else if t < B.now then 9 else 0 := rfl
  have hV : redV B n t = 0 := by unfold redV; rw [if_neg hne]
  have hR : redB B n t = B := by unfold redB; rw [if_neg hne]
  have hn := hok.len
  have out : ∀ {w1 : World} {oa ob : Option Addr} {cap cap' : Nat}, vs = .slice oa B.es.length cap → rs = .slice ob B.es.length cap' → Below w.heap.size w w1 → ∀ z, z = redE B n t →
      rredOut w B vs rs n t (.returned (.tuple #[.agg #[.int .i64 B.valid, .int .i64 B.now, .slice oa B.es.length cap, .slice ob B.es.length cap'], .int .i64 0, .int .i64 z])) w1 := fun h1 h2 hb z hz => by
    refine ⟨_, vs, rs, by rw [hV, ← hz], ?_, hb, .inl rfl, .inl rfl⟩
    rw [hR]
    exact RHolds.step ⟨by rw [h1, h2], hv, hr⟩ hb
  obtain ⟨oa, cap, rfl⟩ := ownsRow_shape hv
  obtain ⟨ob, cap', rfl⟩ := ownsRow_shape hr
  by_cases h1 : t < 0 ∨ t > 3155759999
  · rw [if_pos h1] at hM
    rw [hM, if_pos (by decide)] at hE
    have hrm : (decide (0 ≤ t) && decide (t ≤ 3155759999)) = false := by
      rcases h1 with h | h
      · simp; intro h'; omega
      · simp; intro h'; omega
    go_enter Try.func24, Try.ntmps24
    go_wp2_with (go_at_call 32; refine (rmoment_any _ _).mono ?_; rintro e w' ⟨rfl, rfl⟩; rw [hrm])
    refine bodyPost_ret (v := .tuple #[.agg #[.int .i64 B.valid, .int .i64 B.now, .slice oa B.es.length cap, .slice ob B.es.length cap'], .int .i64 0, .int .i64 1]) (by simp only [results, Try.results24]; go_simp) rfl (out rfl rfl ?_ _ hE.symm)
    (repeat (first | exact Below.refl _ _ | refine Below.setCell ?_ (by first | omega | (simp; done) | (simp; omega) | (simp only [World.size_alloc, World.size_setCell] at *; omega)) _ | refine Below.alloc ?_ (by first | omega | (simp; done) | (simp; omega) | (simp only [World.size_alloc, World.size_setCell] at *; omega)) _ | refine Below.trans ?_ (Below.mono (by assumption) (by first | omega | (simp; done) | (simp; omega) | (simp only [World.size_alloc, World.size_setCell] at *; omega)))))
  rw [if_neg h1] at hM
  have hrm : (decide (0 ≤ t) && decide (t ≤ 3155759999)) = true := by simp; omega
  by_cases h2 : t < B.now
  · rw [if_pos h2] at hM
    rw [hM, if_pos (by decide)] at hE
    go_enter Try.func24, Try.ntmps24
    go_wp2_with (go_at_call 32; refine (rmoment_any _ _).mono ?_; rintro e w' ⟨rfl, rfl⟩; rw [hrm])
    refine bodyPost_ret (v := .tuple #[.agg #[.int .i64 B.valid, .int .i64 B.now, .slice oa B.es.length cap, .slice ob B.es.length cap'], .int .i64 0, .int .i64 9]) (by simp only [results, Try.results24]; go_simp) rfl (out rfl rfl ?_ _ hE.symm)
    (repeat (first | exact Below.refl _ _ | refine Below.setCell ?_ (by first | omega | (simp; done) | (simp; omega) | (simp only [World.size_alloc, World.size_setCell] at *; omega)) _ | refine Below.alloc ?_ (by first | omega | (simp; done) | (simp; omega) | (simp only [World.size_alloc, World.size_setCell] at *; omega)) _ | refine Below.trans ?_ (Below.mono (by assumption) (by first | omega | (simp; done) | (simp; omega) | (simp only [World.size_alloc, World.size_setCell] at *; omega)))))
  rw [if_neg h2] at hM
  rw [hM, if_neg (by decide)] at hE
  by_cases h3 : n < 1 ∨ n > B.es.length
  · rw [if_pos h3] at hE
    by_cases h3a : n < 1
    · go_enter Try.func24, Try.ntmps24
      go_wp2_with (go_at_call 32; refine (rmoment_any _ _).mono ?_; rintro e w' ⟨rfl, rfl⟩; rw [hrm])
      refine bodyPost_ret (v := .tuple #[.agg #[.int .i64 B.valid, .int .i64 B.now, .slice oa B.es.length cap, .slice ob B.es.length cap'], .int .i64 0, .int .i64 7]) (by simp only [results, Try.results24]; go_simp) rfl (out rfl rfl ?_ _ hE.symm)
      (repeat (first | exact Below.refl _ _ | refine Below.setCell ?_ (by first | omega | (simp; done) | (simp; omega) | (simp only [World.size_alloc, World.size_setCell] at *; omega)) _ | refine Below.alloc ?_ (by first | omega | (simp; done) | (simp; omega) | (simp only [World.size_alloc, World.size_setCell] at *; omega)) _ | refine Below.trans ?_ (Below.mono (by assumption) (by first | omega | (simp; done) | (simp; omega) | (simp only [World.size_alloc, World.size_setCell] at *; omega)))))
    · have h3b : n > B.es.length := by omega
      go_enter Try.func24, Try.ntmps24
      go_wp2_with (go_at_call 32; refine (rmoment_any _ _).mono ?_; rintro e w' ⟨rfl, rfl⟩; rw [hrm])
      refine bodyPost_ret (v := .tuple #[.agg #[.int .i64 B.valid, .int .i64 B.now, .slice oa B.es.length cap, .slice ob B.es.length cap'], .int .i64 0, .int .i64 7]) (by simp only [results, Try.results24]; go_simp) rfl (out rfl rfl ?_ _ hE.symm)
      (repeat (first | exact Below.refl _ _ | refine Below.setCell ?_ (by first | omega | (simp; done) | (simp; omega) | (simp only [World.size_alloc, World.size_setCell] at *; omega)) _ | refine Below.alloc ?_ (by first | omega | (simp; done) | (simp; omega) | (simp only [World.size_alloc, World.size_setCell] at *; omega)) _ | refine Below.trans ?_ (Below.mono (by assumption) (by first | omega | (simp; done) | (simp; omega) | (simp only [World.size_alloc, World.size_setCell] at *; omega)))))
  rw [if_neg h3] at hE
  obtain ⟨k, rfl⟩ : ∃ k : Nat, n = k + 1 := ⟨(n - 1).toNat, by omega⟩
  have hk : k < B.es.length := by omega
  obtain ⟨g, capg, cur, he, _, hgb, hcap, hcm, hcs, hcur⟩ := ownsRow_some hv (by omega)
  cases he
  obtain ⟨g', capg', cur', he', _, hgb', hcap', hcm', hcs', hcur'⟩ := ownsRow_some hr (by omega)
  cases he'
  have lG := hgb.lt
  have lG' := hgb'.lt
  obtain ⟨x, hx⟩ : ∃ x, B.es[k]? = some x := ⟨_, List.getElem?_eq_getElem hk⟩
  have hxa : entAt B ((k : Int) + 1) = x := by
    unfold entAt
    rw [List.getD_eq_getElem?_getD, show ((k : Int) + 1 - 1).toNat = k by omega, hx]; rfl
  rw [hxa] at hE
  have e0 : World.cell? w ⟨g, k * 5, none⟩ = some (.int .i64 (x).num) := rowCell encV_len hgb hcur hx 0 (by omega); have e1 : World.cell? w ⟨g, k * 5 + 1, none⟩ = some (.int .i64 (x).mach) := rowCell encV_len hgb hcur hx 1 (by omega); have e2 : World.cell? w ⟨g, k * 5 + 2, none⟩ = some (.int .i64 (x).amt) := rowCell encV_len hgb hcur hx 2 (by omega); have e3 : World.cell? w ⟨g, k * 5 + 3, none⟩ = some (.int .i64 (x).at_) := rowCell encV_len hgb hcur hx 3 (by omega); have e4 : World.cell? w ⟨g, k * 5 + 4, none⟩ = some (.int .i64 (x).til) := rowCell encV_len hgb hcur hx 4 (by omega)
  have r0 : World.cell? w ⟨g', k, none⟩ = some (.bool (x).red) := (by have hq := rowCell encR_len hgb' hcur' hx 0 (by omega); rwa [Nat.mul_one, Nat.add_zero] at hq)
  have hi1 : (0 : Int) ≤ k := by omega
  have hi2 : (k : Int) < B.es.length := by omega
  have hi3 : ¬ ((k : Int) + 1 < 1) := by omega
  have hi4 : ¬ ((k : Int) + 1 > B.es.length) := by omega
  by_cases h4 : x.red = true
  · rw [if_pos h4] at hE
    go_enter Try.func24, Try.ntmps24
    go_wp2_with (go_at_call 32; refine (rmoment_any _ _).mono ?_; rintro e w' ⟨rfl, rfl⟩; rw [hrm])
    refine bodyPost_ret (v := .tuple #[.agg #[.int .i64 B.valid, .int .i64 B.now, .slice (some ⟨g, 0, none⟩) B.es.length cap, .slice (some ⟨g', 0, none⟩) B.es.length cap'], .int .i64 0, .int .i64 28]) (by simp only [results, Try.results24]; go_simp) rfl (out rfl rfl ?_ _ hE.symm)
    (repeat (first | exact Below.refl _ _ | refine Below.setCell ?_ (by first | omega | (simp; done) | (simp; omega) | (simp only [World.size_alloc, World.size_setCell] at *; omega)) _ | refine Below.alloc ?_ (by first | omega | (simp; done) | (simp; omega) | (simp only [World.size_alloc, World.size_setCell] at *; omega)) _ | refine Below.trans ?_ (Below.mono (by assumption) (by first | omega | (simp; done) | (simp; omega) | (simp only [World.size_alloc, World.size_setCell] at *; omega)))))
  rw [if_neg h4] at hE
  by_cases h5 : t ≥ x.til
  · rw [if_pos h5] at hE
    go_enter Try.func24, Try.ntmps24
    go_wp2_with (go_at_call 32; refine (rmoment_any _ _).mono ?_; rintro e w' ⟨rfl, rfl⟩; rw [hrm])
    refine bodyPost_ret (v := .tuple #[.agg #[.int .i64 B.valid, .int .i64 B.now, .slice (some ⟨g, 0, none⟩) B.es.length cap, .slice (some ⟨g', 0, none⟩) B.es.length cap'], .int .i64 0, .int .i64 31]) (by simp only [results, Try.results24]; go_simp) rfl (out rfl rfl ?_ _ hE.symm)
    (repeat (first | exact Below.refl _ _ | refine Below.setCell ?_ (by first | omega | (simp; done) | (simp; omega) | (simp only [World.size_alloc, World.size_setCell] at *; omega)) _ | refine Below.alloc ?_ (by first | omega | (simp; done) | (simp; omega) | (simp only [World.size_alloc, World.size_setCell] at *; omega)) _ | refine Below.trans ?_ (Below.mono (by assumption) (by first | omega | (simp; done) | (simp; omega) | (simp only [World.size_alloc, World.size_setCell] at *; omega)))))
  rw [if_neg h5] at hE
  exact absurd hE hne

end Go.Proofs.Ytbpeiljpbcgjaaa
