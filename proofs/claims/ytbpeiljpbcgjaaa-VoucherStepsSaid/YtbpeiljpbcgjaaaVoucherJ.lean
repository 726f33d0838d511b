/- Contract: the reference's Issue, where it issues nothing. -/
import Derived.Test.YtbpeiljpbcgjaaaVoucherI
import Derived.Test.YtbpeiljpbcgjaaaAppend
namespace Go.Proofs.Ytbpeiljpbcgjaaa
set_option linter.unusedVariables false
set_option linter.unusedSimpArgs false
open Go.RowKit


def rissOut (w : World) (B : Bk) (vs0 rs0 : Value) (m a t : Int) (e : Ending) (w' : World) : Prop :=
  ∃ v vs rs, e = .returned (.tuple #[v, .agg (encV (issV B m a t)).toArray, .int .i64 (issE B m a t)]) ∧ RHolds w' v (issB B m a t) vs rs ∧ Below w.heap.size w w' ∧ Fresh w vs0 vs ∧ Fresh w rs0 rs


theorem rissue_no {w : World} {v vs rs : Value} {B : Bk} (hB : RHolds w v B vs rs) (hok : BkOk B) (m a t : Int) (hne : issE B m a t ≠ 0) :
    Calls Try.prog 23 #[v, .int .i64 m, .int .i64 a, .int .i64 t] w (rissOut w B vs rs m a t) := by
  obtain ⟨rfl, hv, hr⟩ := hB
  have hE : issE B m a t = if m < 0 ∨ m ≥ 8 then 7 else if a < 1 ∨ a > 1000000 then 1 else if momE B t ≠ 0 then momE B t else if B.es.length ≥ 512 then 8 else 0 := rfl
  have hM : momE B t = if t < 0 ∨ t > 3155759999 then 1 else if t < B.now then 9 else 0 := rfl
  have hV : issV B m a t = ent0 := by unfold issV; rw [if_neg hne]
  have hR : issB B m a t = B := by unfold issB; rw [if_neg hne]
  have hn := hok.len
  have out : ∀ {w1 : World} {oa ob : Option Addr} {cap cap' : Nat}, vs = .slice oa B.es.length cap → rs = .slice ob B.es.length cap' → Below w.heap.size w w1 → ∀ z, z = issE B m a t →
      rissOut w B vs rs m a t (.returned (.tuple #[.agg #[.int .i64 B.valid, .int .i64 B.now, .slice oa B.es.length cap, .slice ob B.es.length cap'], .agg (encV (ent0)).toArray, .int .i64 z])) w1 := fun h1 h2 hb z hz => by
    refine ⟨_, vs, rs, by rw [hV, ← hz], ?_, hb, .inl rfl, .inl rfl⟩
    rw [hR]
    exact RHolds.step ⟨by rw [h1, h2], hv, hr⟩ hb
  obtain ⟨oa, cap, rfl⟩ := ownsRow_shape hv
  obtain ⟨ob, cap', rfl⟩ := ownsRow_shape hr
  by_cases h1 : m < 0 ∨ m ≥ 8
  · rw [if_pos h1] at hE
    by_cases h1a : m < 0
    · go_enter Try.func23, Try.ntmps23
      go_wp2_with fail
      refine bodyPost_ret (v := .tuple #[.agg #[.int .i64 B.valid, .int .i64 B.now, .slice oa B.es.length cap, .slice ob B.es.length cap'], .agg (encV (ent0)).toArray, .int .i64 7]) (by simp only [results, Try.results23]; go_simp; first | done | rfl) rfl (out rfl rfl ?_ _ hE.symm)
      (repeat (first | exact Below.refl _ _ | refine Below.setCell ?_ (by first | omega | (simp; done) | (simp; omega) | (simp only [World.size_alloc, World.size_setCell] at *; omega)) _ | refine Below.alloc ?_ (by first | omega | (simp; done) | (simp; omega) | (simp only [World.size_alloc, World.size_setCell] at *; omega)) _ | refine Below.trans ?_ (Below.mono (by assumption) (by first | omega | (simp; done) | (simp; omega) | (simp only [World.size_alloc, World.size_setCell] at *; omega)))))
    · have h1b : m ≥ 8 := by omega
      go_enter Try.func23, Try.ntmps23
      go_wp2_with fail
      refine bodyPost_ret (v := .tuple #[.agg #[.int .i64 B.valid, .int .i64 B.now, .slice oa B.es.length cap, .slice ob B.es.length cap'], .agg (encV (ent0)).toArray, .int .i64 7]) (by simp only [results, Try.results23]; go_simp; first | done | rfl) rfl (out rfl rfl ?_ _ hE.symm)
      (repeat (first | exact Below.refl _ _ | refine Below.setCell ?_ (by first | omega | (simp; done) | (simp; omega) | (simp only [World.size_alloc, World.size_setCell] at *; omega)) _ | refine Below.alloc ?_ (by first | omega | (simp; done) | (simp; omega) | (simp only [World.size_alloc, World.size_setCell] at *; omega)) _ | refine Below.trans ?_ (Below.mono (by assumption) (by first | omega | (simp; done) | (simp; omega) | (simp only [World.size_alloc, World.size_setCell] at *; omega)))))
  rw [if_neg h1] at hE
  have h1a : ¬ m < 0 := by omega
  have h1b : ¬ m ≥ 8 := by omega
  by_cases h2 : a < 1 ∨ a > 1000000
  · rw [if_pos h2] at hE
    by_cases h2a : a < 1
    · go_enter Try.func23, Try.ntmps23
      go_wp2_with fail
      refine bodyPost_ret (v := .tuple #[.agg #[.int .i64 B.valid, .int .i64 B.now, .slice oa B.es.length cap, .slice ob B.es.length cap'], .agg (encV (ent0)).toArray, .int .i64 1]) (by simp only [results, Try.results23]; go_simp; first | done | rfl) rfl (out rfl rfl ?_ _ hE.symm)
      (repeat (first | exact Below.refl _ _ | refine Below.setCell ?_ (by first | omega | (simp; done) | (simp; omega) | (simp only [World.size_alloc, World.size_setCell] at *; omega)) _ | refine Below.alloc ?_ (by first | omega | (simp; done) | (simp; omega) | (simp only [World.size_alloc, World.size_setCell] at *; omega)) _ | refine Below.trans ?_ (Below.mono (by assumption) (by first | omega | (simp; done) | (simp; omega) | (simp only [World.size_alloc, World.size_setCell] at *; omega)))))
    · have h2b : a > 1000000 := by omega
      go_enter Try.func23, Try.ntmps23
      go_wp2_with fail
      refine bodyPost_ret (v := .tuple #[.agg #[.int .i64 B.valid, .int .i64 B.now, .slice oa B.es.length cap, .slice ob B.es.length cap'], .agg (encV (ent0)).toArray, .int .i64 1]) (by simp only [results, Try.results23]; go_simp; first | done | rfl) rfl (out rfl rfl ?_ _ hE.symm)
      (repeat (first | exact Below.refl _ _ | refine Below.setCell ?_ (by first | omega | (simp; done) | (simp; omega) | (simp only [World.size_alloc, World.size_setCell] at *; omega)) _ | refine Below.alloc ?_ (by first | omega | (simp; done) | (simp; omega) | (simp only [World.size_alloc, World.size_setCell] at *; omega)) _ | refine Below.trans ?_ (Below.mono (by assumption) (by first | omega | (simp; done) | (simp; omega) | (simp only [World.size_alloc, World.size_setCell] at *; omega)))))
  rw [if_neg h2] at hE
  have h2a : ¬ a < 1 := by omega
  have h2b : ¬ a > 1000000 := by omega
  by_cases h3 : t < 0 ∨ t > 3155759999
  · rw [if_pos h3] at hM
    rw [hM, if_pos (by decide)] at hE
    have hrm : (decide (0 ≤ t) && decide (t ≤ 3155759999)) = false := by
      rcases h3 with h | h
      · simp; intro h'; omega
      · simp; intro h'; omega
    go_enter Try.func23, Try.ntmps23
    go_wp2_with (go_at_call 32; refine (rmoment_any _ _).mono ?_; rintro e w' ⟨rfl, rfl⟩; rw [hrm])
    refine bodyPost_ret (v := .tuple #[.agg #[.int .i64 B.valid, .int .i64 B.now, .slice oa B.es.length cap, .slice ob B.es.length cap'], .agg (encV (ent0)).toArray, .int .i64 1]) (by simp only [results, Try.results23]; go_simp; first | done | rfl) rfl (out rfl rfl ?_ _ hE.symm)
    (repeat (first | exact Below.refl _ _ | refine Below.setCell ?_ (by first | omega | (simp; done) | (simp; omega) | (simp only [World.size_alloc, World.size_setCell] at *; omega)) _ | refine Below.alloc ?_ (by first | omega | (simp; done) | (simp; omega) | (simp only [World.size_alloc, World.size_setCell] at *; omega)) _ | refine Below.trans ?_ (Below.mono (by assumption) (by first | omega | (simp; done) | (simp; omega) | (simp only [World.size_alloc, World.size_setCell] at *; omega)))))
  rw [if_neg h3] at hM
  have hrm : (decide (0 ≤ t) && decide (t ≤ 3155759999)) = true := by simp; omega
  by_cases h4 : t < B.now
  · rw [if_pos h4] at hM
    rw [hM, if_pos (by decide)] at hE
    go_enter Try.func23, Try.ntmps23
    go_wp2_with (go_at_call 32; refine (rmoment_any _ _).mono ?_; rintro e w' ⟨rfl, rfl⟩; rw [hrm])
    refine bodyPost_ret (v := .tuple #[.agg #[.int .i64 B.valid, .int .i64 B.now, .slice oa B.es.length cap, .slice ob B.es.length cap'], .agg (encV (ent0)).toArray, .int .i64 9]) (by simp only [results, Try.results23]; go_simp; first | done | rfl) rfl (out rfl rfl ?_ _ hE.symm)
    (repeat (first | exact Below.refl _ _ | refine Below.setCell ?_ (by first | omega | (simp; done) | (simp; omega) | (simp only [World.size_alloc, World.size_setCell] at *; omega)) _ | refine Below.alloc ?_ (by first | omega | (simp; done) | (simp; omega) | (simp only [World.size_alloc, World.size_setCell] at *; omega)) _ | refine Below.trans ?_ (Below.mono (by assumption) (by first | omega | (simp; done) | (simp; omega) | (simp only [World.size_alloc, World.size_setCell] at *; omega)))))
  rw [if_neg h4] at hM
  rw [hM, if_neg (by decide)] at hE
  have h5 : B.es.length ≥ 512 := by
    rcases Nat.lt_or_ge B.es.length 512 with h | h
    · rw [if_neg (by omega)] at hE; exact absurd hE hne
    · exact h
  have h5' : (B.es.length : Int) ≥ 512 := by omega
  rw [if_pos h5] at hE
  go_enter Try.func23, Try.ntmps23
  go_wp2_with (go_at_call 32; refine (rmoment_any _ _).mono ?_; rintro e w' ⟨rfl, rfl⟩; rw [hrm])
  refine bodyPost_ret (v := .tuple #[.agg #[.int .i64 B.valid, .int .i64 B.now, .slice oa B.es.length cap, .slice ob B.es.length cap'], .agg (encV (ent0)).toArray, .int .i64 8]) (by simp only [results, Try.results23]; go_simp; first | done | rfl) rfl (out rfl rfl ?_ _ hE.symm)
  (repeat (first | exact Below.refl _ _ | refine Below.setCell ?_ (by first | omega | (simp; done) | (simp; omega) | (simp only [World.size_alloc, World.size_setCell] at *; omega)) _ | refine Below.alloc ?_ (by first | omega | (simp; done) | (simp; omega) | (simp only [World.size_alloc, World.size_setCell] at *; omega)) _ | refine Below.trans ?_ (Below.mono (by assumption) (by first | omega | (simp; done) | (simp; omega) | (simp only [World.size_alloc, World.size_setCell] at *; omega)))))

end Go.Proofs.Ytbpeiljpbcgjaaa
