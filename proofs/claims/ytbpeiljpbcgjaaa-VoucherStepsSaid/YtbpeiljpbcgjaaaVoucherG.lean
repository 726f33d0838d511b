/- Contract: the reference's sums of open and lapsed vouchers. -/
import Derived.Test.YtbpeiljpbcgjaaaVoucherF
namespace Go.Proofs.Ytbpeiljpbcgjaaa
set_option linter.unusedVariables false
set_option linter.unusedSimpArgs false
open Go.RowKit

def SumsRel (l : List Ent) (t : Int) (W : World) (a b i : Value) (w' : World) : Prop :=
  ∃ k : Nat, k ≤ l.length ∧ a = .int .i64 (sumIf (isOpen t) (l.take k)) ∧ b = .int .i64 (sumIf (isLapsed t) (l.take k)) ∧ i = .int .i64 k ∧ w' = W


set_option maxHeartbeats 1000000 in
theorem rsums_any {w : World} {v vs rs : Value} {B : Bk} (hB : RHolds w v B vs rs) (hok : BkOk B) (t : Int) : Calls Try.prog 25 #[v, .int .i64 t] w fun e w' => e = .returned (.tuple #[.int .i64 (openV B t), .int .i64 (lapV B t), .int .i64 (momE B t)]) ∧ Below w.heap.size w w' := by
  obtain ⟨rfl, hv, hr⟩ := hB
  have hE : momE B t = if t < 0 ∨ t > 3155759999 then 1 else if t < B.now then 9 else 0 := rfl
  have hO : openV B t = if momE B t = 0 then sumIf (isOpen t) B.es else 0 := rfl
  have hL : lapV B t = if momE B t = 0 then sumIf (isLapsed t) B.es else 0 := rfl
  have hn := hok.len
  obtain ⟨oa, cap, rfl⟩ := ownsRow_shape hv
  obtain ⟨ob, cap', rfl⟩ := ownsRow_shape hr
  by_cases h1 : t < 0 ∨ t > 3155759999
  · rw [if_pos h1] at hE
    rw [hE, if_neg (by decide)] at hO hL
    have hrm : (decide (0 ≤ t) && decide (t ≤ 3155759999)) = false := by
      rcases h1 with h | h
      · simp; intro h'; omega
      · simp; intro h'; omega
    go_enter Try.func25, Try.ntmps25
    go_wp2_with (go_at_call 32; refine (rmoment_any _ _).mono ?_; rintro e w' ⟨rfl, rfl⟩; rw [hrm])
    go_ret3
    refine ⟨by rw [hO, hL, hE]; rfl, ?_⟩
    (repeat (first | exact Below.refl _ _ | refine Below.setCell ?_ (by first | omega | (simp; done) | (simp; omega) | (simp only [World.size_alloc, World.size_setCell] at *; omega)) _ | refine Below.alloc ?_ (by first | omega | (simp; done) | (simp; omega) | (simp only [World.size_alloc, World.size_setCell] at *; omega)) _ | refine Below.trans ?_ (Below.mono (by assumption) (by first | omega | (simp; done) | (simp; omega) | (simp only [World.size_alloc, World.size_setCell] at *; omega)))))
  rw [if_neg h1] at hE
  have hrm : (decide (0 ≤ t) && decide (t ≤ 3155759999)) = true := by simp; omega
  by_cases h2 : t < B.now
  · rw [if_pos h2] at hE
    rw [hE, if_neg (by decide)] at hO hL
    go_enter Try.func25, Try.ntmps25
    go_wp2_with (go_at_call 32; refine (rmoment_any _ _).mono ?_; rintro e w' ⟨rfl, rfl⟩; rw [hrm])
    go_ret3
    refine ⟨by rw [hO, hL, hE]; rfl, ?_⟩
    (repeat (first | exact Below.refl _ _ | refine Below.setCell ?_ (by first | omega | (simp; done) | (simp; omega) | (simp only [World.size_alloc, World.size_setCell] at *; omega)) _ | refine Below.alloc ?_ (by first | omega | (simp; done) | (simp; omega) | (simp only [World.size_alloc, World.size_setCell] at *; omega)) _ | refine Below.trans ?_ (Below.mono (by assumption) (by first | omega | (simp; done) | (simp; omega) | (simp only [World.size_alloc, World.size_setCell] at *; omega)))))
  rw [if_neg h2] at hE
  rw [hE, if_pos rfl] at hO hL
  rw [hE, hO, hL]
  by_cases hn0 : B.es.length = 0
  · have hnil := List.eq_nil_of_length_eq_zero hn0
    rw [hn0]
    go_enter Try.func25, Try.ntmps25
    go_wp2_with (go_at_call 32; refine (rmoment_any _ _).mono ?_; rintro e w' ⟨rfl, rfl⟩; rw [hrm])
    go_loopw [7, 8, 9] (fun a b i wr => SumsRel [] t (w.alloc (.cells #[.int .i64 B.valid, .int .i64 B.now, .slice oa 0 cap, .slice ob 0 cap'] 29)) a b i wr) (fun _ _ _ _ => 0)
    case atStart => exact ⟨0, Nat.zero_le _, rfl, rfl, rfl, rfl⟩
    case round =>
      obtain ⟨k, hk, rfl, rfl, rfl, rfl⟩ := hrel
      obtain rfl : k = 0 := by simpa using hk
      go_wp2_with fail
      go_ret3
      refine ⟨by simp [hnil, sumIf], ?_⟩
      (repeat (first | exact Below.refl _ _ | refine Below.setCell ?_ (by first | omega | (simp; done) | (simp; omega) | (simp only [World.size_alloc, World.size_setCell] at *; omega)) _ | refine Below.alloc ?_ (by first | omega | (simp; done) | (simp; omega) | (simp only [World.size_alloc, World.size_setCell] at *; omega)) _ | refine Below.trans ?_ (Below.mono (by assumption) (by first | omega | (simp; done) | (simp; omega) | (simp only [World.size_alloc, World.size_setCell] at *; omega)))))
  · obtain ⟨g, cap, cur, he, _, hgb, hcap, hcm, hcs, hcur⟩ := ownsRow_some hv hn0
    cases he
    obtain ⟨g', cap', cur', he', _, hgb', hcap', hcm', hcs', hcur'⟩ := ownsRow_some hr hn0
    cases he'
    have lG := hgb.lt
    have lG' := hgb'.lt
    go_enter Try.func25, Try.ntmps25
    go_wp2_with (go_at_call 32; refine (rmoment_any _ _).mono ?_; rintro e w' ⟨rfl, rfl⟩; rw [hrm])
    go_loopw [7, 8, 9] (fun a b i wr => SumsRel B.es t (w.alloc (.cells #[.int .i64 B.valid, .int .i64 B.now, .slice (some ⟨g, 0, none⟩) B.es.length cap, .slice (some ⟨g', 0, none⟩) B.es.length cap'] 29)) a b i wr) (fun _ _ i _ => (B.es.length - intOf i).toNat)
    case atStart => exact ⟨0, Nat.zero_le _, rfl, rfl, rfl, rfl⟩
    case round =>
      obtain ⟨k, hk, rfl, rfl, rfl, rfl⟩ := hrel
      by_cases hlt : k < B.es.length
      · obtain ⟨x, hx⟩ : ∃ x, B.es[k]? = some x := ⟨_, List.getElem?_eq_getElem hlt⟩
        have e0 : World.cell? w ⟨g, k * 5, none⟩ = some (.int .i64 (x).num) := rowCell encV_len hgb hcur hx 0 (by omega); have e1 : World.cell? w ⟨g, k * 5 + 1, none⟩ = some (.int .i64 (x).mach) := rowCell encV_len hgb hcur hx 1 (by omega); have e2 : World.cell? w ⟨g, k * 5 + 2, none⟩ = some (.int .i64 (x).amt) := rowCell encV_len hgb hcur hx 2 (by omega); have e3 : World.cell? w ⟨g, k * 5 + 3, none⟩ = some (.int .i64 (x).at_) := rowCell encV_len hgb hcur hx 3 (by omega); have e4 : World.cell? w ⟨g, k * 5 + 4, none⟩ = some (.int .i64 (x).til) := rowCell encV_len hgb hcur hx 4 (by omega)
        have r0 : World.cell? w ⟨g', k, none⟩ = some (.bool (x).red) := (by have hq := rowCell encR_len hgb' hcur' hx 0 (by omega); rwa [Nat.mul_one, Nat.add_zero] at hq)
        have hb1 := sumIf_bd (isOpen t) (B.es.take k) fun e he => hok.amt e (List.mem_of_mem_take he)
        have hb2 := sumIf_bd (isLapsed t) (B.es.take k) fun e he => hok.amt e (List.mem_of_mem_take he)
        have hbl : (B.es.take k).length ≤ 512 := by simp; omega
        have hxa := hok.amt x (List.mem_of_getElem? hx)
        have hs1 := sumIf_take (isOpen t) hx
        have hs2 := sumIf_take (isLapsed t) hx
        generalize sumIf (isOpen t) (B.es.take k) = S1 at hb1 hs1 ⊢
        generalize sumIf (isLapsed t) (B.es.take k) = S2 at hb2 hs2 ⊢
        have hi1 : (0 : Int) ≤ k := by omega
        have hi2 : (k : Int) < B.es.length := by omega
        by_cases hpx : x.red = true
        · rw [if_neg (by simp [isOpen, hpx])] at hs1
          rw [if_neg (by simp [isLapsed, hpx])] at hs2
          go_wp2_with fail
          go_roundw
          case rel => exact ⟨k + 1, hlt, by rw [hs1]; simp, by rw [hs2]; simp, by simp, rfl⟩
          case measure => simp [intOf]; omega
        · by_cases hxt : t < x.til
          · rw [if_pos (by simp [isOpen, hpx, hxt])] at hs1
            rw [if_neg (by simp [isLapsed, hpx]; omega)] at hs2
            go_wp2_with fail
            go_roundw
            case rel => exact ⟨k + 1, hlt, by rw [hs1], by rw [hs2]; simp, by simp, rfl⟩
            case measure => simp [intOf]; omega
          · rw [if_neg (by simp [isOpen, hpx]; omega)] at hs1
            rw [if_pos (by simp [isLapsed, hpx]; omega)] at hs2
            go_wp2_with fail
            go_roundw
            case rel => exact ⟨k + 1, hlt, by rw [hs1]; simp, by rw [hs2], by simp, rfl⟩
            case measure => simp [intOf]; omega
      · obtain rfl : k = B.es.length := by omega
        go_wp2_with fail
        go_ret3
        refine ⟨by simp, ?_⟩
        (repeat (first | exact Below.refl _ _ | refine Below.setCell ?_ (by first | omega | (simp; done) | (simp; omega) | (simp only [World.size_alloc, World.size_setCell] at *; omega)) _ | refine Below.alloc ?_ (by first | omega | (simp; done) | (simp; omega) | (simp only [World.size_alloc, World.size_setCell] at *; omega)) _ | refine Below.trans ?_ (Below.mono (by assumption) (by first | omega | (simp; done) | (simp; omega) | (simp only [World.size_alloc, World.size_setCell] at *; omega)))))

end Go.Proofs.Ytbpeiljpbcgjaaa
