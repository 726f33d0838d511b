/- Contracts: New of both, and the reference's sums. -/
import Derived.Test.YtbpeiljpbcgjaaaVoucherE
namespace Go.Proofs.Ytbpeiljpbcgjaaa
set_option linter.unusedVariables false
set_option linter.unusedSimpArgs false
open Go.RowKit

def encR (e : Ent) : List Value := [.bool e.red]
theorem encR_len (e : Ent) : (encR e).length = 1 := rfl

/-- v is the reference's book B. -/
structure RHolds (w : World) (v : Value) (B : Bk) (vs rs : Value) : Prop where
  eq : v = .agg #[.int .i64 B.valid, .int .i64 B.now, vs, rs]
  vown : w.ownsRow 0 38 5 vs B.es.length (rowOf encV B.es)
  rown : w.ownsRow 0 4 1 rs B.es.length (rowOf encR B.es)

theorem RHolds.frT {w w' : World} {v vs rs : Value} {B : Bk} (h : RHolds w v B vs rs) {T : TypeId → Bool} {B' : Nat} (hf : FrT B' T w w') (h1 : T 38 = false) (h2 : T 4 = false) : RHolds w' v B vs rs :=
  ⟨h.eq, ownsRow_frT h.vown hf h1, ownsRow_frT h.rown hf h2⟩
theorem RHolds.step {w w' : World} {v vs rs : Value} {B : Bk} (h : RHolds w v B vs rs) (hb : Below w.heap.size w w') : RHolds w' v B vs rs :=
  h.frT (T := fun _ => false) (B' := 0) (.of_below hb) rfl rfl

theorem rmoment_any (t : Int) (w : World) : Calls Try.prog 32 #[.int .i64 t] w fun e w' => e = .returned (.bool (decide (0 ≤ t) && decide (t ≤ 3155759999))) ∧ w' = w := by
  by_cases h1 : t ≥ 0
  · by_cases h2 : t ≤ 3155759999
    · go_enter Try.func32, Try.ntmps32
      go_wp2_with fail
      go_ret
      exact ⟨by simp [h1, h2], rfl⟩
    · go_enter Try.func32, Try.ntmps32
      go_wp2_with fail
      go_ret
      exact ⟨by simp [h1, h2], rfl⟩
  · go_enter Try.func32, Try.ntmps32
    go_wp2_with fail
    go_ret
    exact ⟨by simp [h1]; intro h; omega, rfl⟩

def newErr (v : Int) : Int := if v < 1 ∨ v > 31622400 then 1 else 0
theorem new_no (v : Int) (hv : v < 1 ∨ v > 31622400) (w : World) : Calls Try.prog 11 #[.int .i64 v] w fun e w' => e = .returned (.tuple #[.pointer none, .int .i64 1]) ∧ w' = w := by
  rcases hv with h1 | h1
  · go_enter Try.func11, Try.ntmps11
    go_wp2_with fail
    go_ret2
    exact ⟨rfl, rfl⟩
  · have h2 : ¬ v < 1 := by omega
    go_enter Try.func11, Try.ntmps11
    go_wp2_with fail
    go_ret2
    exact ⟨rfl, rfl⟩
theorem new_ok (v : Int) (h1 : 1 ≤ v) (h2 : v ≤ 31622400) (w : World) :
    Calls Try.prog 11 #[.int .i64 v] w fun e w' => e = .returned (.tuple #[.pointer (some ⟨w.heap.size, 0, none⟩), .int .i64 0]) ∧ Holds w' w.heap.size w.heap.size (.slice none 0 0) ⟨v, 0, []⟩ ∧ Below w.heap.size w w' := by
  have h1' : ¬ v < 1 := by omega
  have h2' : ¬ v > 31622400 := by omega
  go_enter Try.func11, Try.ntmps11
  go_wp2_with fail
  go_ret2
  refine ⟨rfl, ⟨Nat.le_refl _, Blk.new _ _ _, World.ownsRow_nil _ _ _ _⟩, ?_⟩
  (repeat (first | exact Below.refl _ _ | refine Below.setCell ?_ (by first | omega | (simp; done) | (simp; omega) | (simp only [World.size_alloc, World.size_setCell] at *; omega)) _ | refine Below.alloc ?_ (by first | omega | (simp; done) | (simp; omega) | (simp only [World.size_alloc, World.size_setCell] at *; omega)) _ | refine Below.trans ?_ (Below.mono (by assumption) (by first | omega | (simp; done) | (simp; omega) | (simp only [World.size_alloc, World.size_setCell] at *; omega)))))

theorem rnew_no (v : Int) (hv : v < 1 ∨ v > 31622400) (w : World) : Calls Try.prog 12 #[.int .i64 v] w fun e w' => (∃ x, e = .returned (.tuple #[x, .int .i64 1])) ∧ Below w.heap.size w w' := by
  rcases hv with h1 | h1
  · go_enter Try.func12, Try.ntmps12
    go_wp2_with fail
    refine bodyPost_ret (v := .tuple #[.agg #[.int .i64 0, .int .i64 0, .slice none 0 0, .slice none 0 0], .int .i64 1]) (by simp only [results, Try.results12]; go_simp) rfl ⟨⟨_, rfl⟩, ?_⟩
    (repeat (first | exact Below.refl _ _ | refine Below.setCell ?_ (by first | omega | (simp; done) | (simp; omega) | (simp only [World.size_alloc, World.size_setCell] at *; omega)) _ | refine Below.alloc ?_ (by first | omega | (simp; done) | (simp; omega) | (simp only [World.size_alloc, World.size_setCell] at *; omega)) _ | refine Below.trans ?_ (Below.mono (by assumption) (by first | omega | (simp; done) | (simp; omega) | (simp only [World.size_alloc, World.size_setCell] at *; omega)))))
  · have h2 : ¬ v < 1 := by omega
    go_enter Try.func12, Try.ntmps12
    go_wp2_with fail
    refine bodyPost_ret (v := .tuple #[.agg #[.int .i64 0, .int .i64 0, .slice none 0 0, .slice none 0 0], .int .i64 1]) (by simp only [results, Try.results12]; go_simp) rfl ⟨⟨_, rfl⟩, ?_⟩
    (repeat (first | exact Below.refl _ _ | refine Below.setCell ?_ (by first | omega | (simp; done) | (simp; omega) | (simp only [World.size_alloc, World.size_setCell] at *; omega)) _ | refine Below.alloc ?_ (by first | omega | (simp; done) | (simp; omega) | (simp only [World.size_alloc, World.size_setCell] at *; omega)) _ | refine Below.trans ?_ (Below.mono (by assumption) (by first | omega | (simp; done) | (simp; omega) | (simp only [World.size_alloc, World.size_setCell] at *; omega)))))
theorem rnew_ok (v : Int) (h1 : 1 ≤ v) (h2 : v ≤ 31622400) (w : World) :
    Calls Try.prog 12 #[.int .i64 v] w fun e w' => (∃ x vs rs, e = .returned (.tuple #[x, .int .i64 0]) ∧ RHolds w' x ⟨v, 0, []⟩ vs rs) ∧ Below w.heap.size w w' := by
  have h1' : ¬ v < 1 := by omega
  have h2' : ¬ v > 31622400 := by omega
  go_enter Try.func12, Try.ntmps12
  go_wp2_with fail
  refine bodyPost_ret (v := .tuple #[.agg #[.int .i64 v, .int .i64 0, .slice none 0 0, .slice none 0 0], .int .i64 0]) (by simp only [results, Try.results12]; go_simp) rfl ⟨⟨_, rfl, .slice none 0 0, .slice none 0 0, RHolds.mk rfl (World.ownsRow_nil _ _ _ _) (World.ownsRow_nil _ _ _ _)⟩, ?_⟩
  (repeat (first | exact Below.refl _ _ | refine Below.setCell ?_ (by first | omega | (simp; done) | (simp; omega) | (simp only [World.size_alloc, World.size_setCell] at *; omega)) _ | refine Below.alloc ?_ (by first | omega | (simp; done) | (simp; omega) | (simp only [World.size_alloc, World.size_setCell] at *; omega)) _ | refine Below.trans ?_ (Below.mono (by assumption) (by first | omega | (simp; done) | (simp; omega) | (simp only [World.size_alloc, World.size_setCell] at *; omega)))))

theorem ownsRow_shape {w : World} {base : Nat} {e : TypeId} {size : Nat} {v : Value} {n : Nat} {xs : List Value} (h : w.ownsRow base e size v n xs) : ∃ oa cap, v = .slice oa n cap := by
  rcases ownsRow_open h with ⟨rfl, rfl, _⟩ | ⟨g, cap, cur, rfl, _⟩
  · exact ⟨none, 0, rfl⟩
  · exact ⟨_, _, rfl⟩
theorem ownsRow_some {w : World} {base : Nat} {e : TypeId} {size : Nat} {v : Value} {n : Nat} {xs : List Value} (h : w.ownsRow base e size v n xs) (hn : n ≠ 0) :
    ∃ g cap cur, v = .slice (some ⟨g, 0, none⟩) n cap ∧ base ≤ g ∧ Blk w g e cur ∧ n ≤ cap ∧ cap ≤ maxLen ∧ cur.size = cap * size ∧ ∀ j, j < n * size → cur[j]? = xs[j]? := by
  rcases ownsRow_open h with ⟨_, h0, _⟩ | h
  · exact absurd h0 hn
  · exact h

def TotRel (l : List Ent) (W : World) (a b i : Value) (w' : World) : Prop :=
  ∃ k : Nat, k ≤ l.length ∧ a = .int .i64 (sumIf (fun _ => true) (l.take k)) ∧ b = .int .i64 (sumIf (fun e => e.red) (l.take k)) ∧ i = .int .i64 k ∧ w' = W

set_option maxHeartbeats 1000000 in
theorem rtot_any {w : World} {v vs rs : Value} {B : Bk} (hB : RHolds w v B vs rs) (hok : BkOk B) : Calls Try.prog 18 #[v] w fun e w' => e = .returned (.tuple #[.int .i64 (totV B), .int .i64 (paidV B)]) ∧ Below w.heap.size w w' := by
  obtain ⟨rfl, hv, hr⟩ := hB
  have hn := hok.len
  by_cases hn0 : B.es.length = 0
  · obtain ⟨oa, cap, rfl⟩ := ownsRow_shape hv
    obtain ⟨ob, cap', rfl⟩ := ownsRow_shape hr
    have hnil := List.eq_nil_of_length_eq_zero hn0
    rw [hn0]
    go_enter Try.func18, Try.ntmps18
    go_wp2_with fail
    go_loopw [4, 5, 6] (fun a b i wr => TotRel [] (w.alloc (.cells #[.int .i64 B.valid, .int .i64 B.now, .slice oa 0 cap, .slice ob 0 cap'] 29)) a b i wr) (fun _ _ _ _ => 0)
    case atStart => exact ⟨0, Nat.zero_le _, rfl, rfl, rfl, rfl⟩
    case round =>
      obtain ⟨k, hk, rfl, rfl, rfl, rfl⟩ := hrel
      obtain rfl : k = 0 := by simpa using hk
      go_wp2_with fail
      go_ret2
      refine ⟨by simp [totV, paidV, hnil, sumIf], ?_⟩
      (repeat (first | exact Below.refl _ _ | refine Below.setCell ?_ (by first | omega | (simp; done) | (simp; omega) | (simp only [World.size_alloc, World.size_setCell] at *; omega)) _ | refine Below.alloc ?_ (by first | omega | (simp; done) | (simp; omega) | (simp only [World.size_alloc, World.size_setCell] at *; omega)) _ | refine Below.trans ?_ (Below.mono (by assumption) (by first | omega | (simp; done) | (simp; omega) | (simp only [World.size_alloc, World.size_setCell] at *; omega)))))
  · obtain ⟨g, cap, cur, rfl, _, hgb, hcap, hcm, hcs, hcur⟩ := ownsRow_some hv hn0
    obtain ⟨g', cap', cur', rfl, _, hgb', hcap', hcm', hcs', hcur'⟩ := ownsRow_some hr hn0
    have lG := hgb.lt
    have lG' := hgb'.lt
    go_enter Try.func18, Try.ntmps18
    go_wp2_with fail
    go_loopw [4, 5, 6] (fun a b i wr => TotRel B.es (w.alloc (.cells #[.int .i64 B.valid, .int .i64 B.now, .slice (some ⟨g, 0, none⟩) B.es.length cap, .slice (some ⟨g', 0, none⟩) B.es.length cap'] 29)) a b i wr) (fun _ _ i _ => (B.es.length - intOf i).toNat)
    case atStart => exact ⟨0, Nat.zero_le _, rfl, rfl, rfl, rfl⟩
    case round =>
      obtain ⟨k, hk, rfl, rfl, rfl, rfl⟩ := hrel
      by_cases hlt : k < B.es.length
      · obtain ⟨x, hx⟩ : ∃ x, B.es[k]? = some x := ⟨_, List.getElem?_eq_getElem hlt⟩
        have e0 : World.cell? w ⟨g, k * 5, none⟩ = some (.int .i64 (x).num) := rowCell encV_len hgb hcur hx 0 (by omega); have e1 : World.cell? w ⟨g, k * 5 + 1, none⟩ = some (.int .i64 (x).mach) := rowCell encV_len hgb hcur hx 1 (by omega); have e2 : World.cell? w ⟨g, k * 5 + 2, none⟩ = some (.int .i64 (x).amt) := rowCell encV_len hgb hcur hx 2 (by omega); have e3 : World.cell? w ⟨g, k * 5 + 3, none⟩ = some (.int .i64 (x).at_) := rowCell encV_len hgb hcur hx 3 (by omega); have e4 : World.cell? w ⟨g, k * 5 + 4, none⟩ = some (.int .i64 (x).til) := rowCell encV_len hgb hcur hx 4 (by omega)
        have r0 : World.cell? w ⟨g', k, none⟩ = some (.bool (x).red) := (by have hq := rowCell encR_len hgb' hcur' hx 0 (by omega); rwa [Nat.mul_one, Nat.add_zero] at hq)
        have hb1 := sumIf_bd (fun _ => true) (B.es.take k) fun e he => hok.amt e (List.mem_of_mem_take he)
        have hb2 := sumIf_bd (fun e => e.red) (B.es.take k) fun e he => hok.amt e (List.mem_of_mem_take he)
        have hbl : (B.es.take k).length ≤ 512 := by simp; omega
        have hxa := hok.amt x (List.mem_of_getElem? hx)
        have hs1 := sumIf_take (fun _ => true) hx
        have hs2 := sumIf_take (fun e => e.red) hx
        rw [if_pos rfl] at hs1
        generalize sumIf (fun _ => true) (B.es.take k) = S1 at hb1 hs1 ⊢
        generalize sumIf (fun e => e.red) (B.es.take k) = S2 at hb2 hs2 ⊢
        have hi1 : (0 : Int) ≤ k := by omega
        have hi2 : (k : Int) < B.es.length := by omega
        by_cases hpx : x.red = true
        · rw [if_pos hpx] at hs2
          go_wp2_with fail
          go_roundw
          case rel => exact ⟨k + 1, hlt, by rw [hs1], by rw [hs2], by simp, rfl⟩
          case measure => simp [intOf]; omega
        · rw [if_neg hpx] at hs2
          go_wp2_with fail
          go_roundw
          case rel => exact ⟨k + 1, hlt, by rw [hs1], by rw [hs2]; simp, by simp, rfl⟩
          case measure => simp [intOf]; omega
      · obtain rfl : k = B.es.length := by omega
        go_wp2_with fail
        go_ret2
        refine ⟨by simp [totV, paidV], ?_⟩
        (repeat (first | exact Below.refl _ _ | refine Below.setCell ?_ (by first | omega | (simp; done) | (simp; omega) | (simp only [World.size_alloc, World.size_setCell] at *; omega)) _ | refine Below.alloc ?_ (by first | omega | (simp; done) | (simp; omega) | (simp only [World.size_alloc, World.size_setCell] at *; omega)) _ | refine Below.trans ?_ (Below.mono (by assumption) (by first | omega | (simp; done) | (simp; omega) | (simp only [World.size_alloc, World.size_setCell] at *; omega)))))

end Go.Proofs.Ytbpeiljpbcgjaaa
