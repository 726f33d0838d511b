/- Contracts: the conditions of the sums, and the sums. -/
import Derived.Test.YtbpeiljpbcgjaaaVoucherA
namespace Go.Proofs.Ytbpeiljpbcgjaaa
set_option linter.unusedVariables false
set_option linter.unusedSimpArgs false
open Go.RowKit



theorem open1_any (x : Ent) (t : Int) (p : Nat) (w : World) (hp : Blk w p 3 #[.int .i64 t]) : Calls Try.prog 30 #[.agg (encE x).toArray, .pointer (some ⟨p, 0, none⟩)] w fun e w' => e = .returned (.bool (isOpen t x)) ∧ Below w.heap.size w w' := by
  unfold encE isOpen
  have c1 := hp.cell
  have l1 := hp.lt
  generalize hR : x.red = R
  cases R
  · by_cases ht : t < x.til
    · go_enter Try.func30, Try.ntmps30
      go_wp2_with fail
      go_ret
      refine ⟨by simp [ht], ?_⟩
      (repeat (first | exact Below.refl _ _ | refine Below.setCell ?_ (by first | omega | (simp; done) | (simp; omega) | (simp only [World.size_alloc, World.size_setCell] at *; omega)) _ | refine Below.alloc ?_ (by first | omega | (simp; done) | (simp; omega) | (simp only [World.size_alloc, World.size_setCell] at *; omega)) _ | refine Below.trans ?_ (Below.mono (by assumption) (by first | omega | (simp; done) | (simp; omega) | (simp only [World.size_alloc, World.size_setCell] at *; omega)))))
    · go_enter Try.func30, Try.ntmps30
      go_wp2_with fail
      go_ret
      refine ⟨by simp [ht], ?_⟩
      (repeat (first | exact Below.refl _ _ | refine Below.setCell ?_ (by first | omega | (simp; done) | (simp; omega) | (simp only [World.size_alloc, World.size_setCell] at *; omega)) _ | refine Below.alloc ?_ (by first | omega | (simp; done) | (simp; omega) | (simp only [World.size_alloc, World.size_setCell] at *; omega)) _ | refine Below.trans ?_ (Below.mono (by assumption) (by first | omega | (simp; done) | (simp; omega) | (simp only [World.size_alloc, World.size_setCell] at *; omega)))))
  · go_enter Try.func30, Try.ntmps30
    go_wp2_with fail
    go_ret
    refine ⟨by simp, ?_⟩
    (repeat (first | exact Below.refl _ _ | refine Below.setCell ?_ (by first | omega | (simp; done) | (simp; omega) | (simp only [World.size_alloc, World.size_setCell] at *; omega)) _ | refine Below.alloc ?_ (by first | omega | (simp; done) | (simp; omega) | (simp only [World.size_alloc, World.size_setCell] at *; omega)) _ | refine Below.trans ?_ (Below.mono (by assumption) (by first | omega | (simp; done) | (simp; omega) | (simp only [World.size_alloc, World.size_setCell] at *; omega)))))
theorem lapsed1_any (x : Ent) (t : Int) (p : Nat) (w : World) (hp : Blk w p 3 #[.int .i64 t]) : Calls Try.prog 31 #[.agg (encE x).toArray, .pointer (some ⟨p, 0, none⟩)] w fun e w' => e = .returned (.bool (isLapsed t x)) ∧ Below w.heap.size w w' := by
  unfold encE isLapsed
  have c1 := hp.cell
  have l1 := hp.lt
  generalize hR : x.red = R
  cases R
  · by_cases ht : t ≥ x.til
    · go_enter Try.func31, Try.ntmps31
      go_wp2_with fail
      go_ret
      refine ⟨by simp [ht], ?_⟩
      (repeat (first | exact Below.refl _ _ | refine Below.setCell ?_ (by first | omega | (simp; done) | (simp; omega) | (simp only [World.size_alloc, World.size_setCell] at *; omega)) _ | refine Below.alloc ?_ (by first | omega | (simp; done) | (simp; omega) | (simp only [World.size_alloc, World.size_setCell] at *; omega)) _ | refine Below.trans ?_ (Below.mono (by assumption) (by first | omega | (simp; done) | (simp; omega) | (simp only [World.size_alloc, World.size_setCell] at *; omega)))))
    · go_enter Try.func31, Try.ntmps31
      go_wp2_with fail
      go_ret
      refine ⟨by simp [ht], ?_⟩
      (repeat (first | exact Below.refl _ _ | refine Below.setCell ?_ (by first | omega | (simp; done) | (simp; omega) | (simp only [World.size_alloc, World.size_setCell] at *; omega)) _ | refine Below.alloc ?_ (by first | omega | (simp; done) | (simp; omega) | (simp only [World.size_alloc, World.size_setCell] at *; omega)) _ | refine Below.trans ?_ (Below.mono (by assumption) (by first | omega | (simp; done) | (simp; omega) | (simp only [World.size_alloc, World.size_setCell] at *; omega)))))
  · go_enter Try.func31, Try.ntmps31
    go_wp2_with fail
    go_ret
    refine ⟨by simp, ?_⟩
    (repeat (first | exact Below.refl _ _ | refine Below.setCell ?_ (by first | omega | (simp; done) | (simp; omega) | (simp only [World.size_alloc, World.size_setCell] at *; omega)) _ | refine Below.alloc ?_ (by first | omega | (simp; done) | (simp; omega) | (simp only [World.size_alloc, World.size_setCell] at *; omega)) _ | refine Below.trans ?_ (Below.mono (by assumption) (by first | omega | (simp; done) | (simp; omega) | (simp only [World.size_alloc, World.size_setCell] at *; omega)))))

def SumRel (p : Ent → Bool) (l : List Ent) (w : World) (s i : Value) (w' : World) : Prop :=
  ∃ k : Nat, k ≤ l.length ∧ s = .int .i64 (sumIf p (l.take k)) ∧ i = .int .i64 k ∧ Below w.heap.size w w'

theorem sumIf_take (p : Ent → Bool) {l : List Ent} {k : Nat} {x : Ent} (h : l[k]? = some x) : sumIf p (l.take (k + 1)) = sumIf p (l.take k) + (if p x then x.amt else 0) := by
  rw [List.take_add_one, h, sumIf_append]
  simp [sumIf]


set_option maxHeartbeats 1000000 in
theorem sum_open {w : World} {base b : Nat} {sv : Value} {B : Bk} (hB : Holds w base b sv B) (hok : BkOk B) (caps : Array Value) (p : Ent → Bool)
    (hp : ∀ (x : Ent) (w' : World), Below w.heap.size w w' → Calls Try.prog 30 (#[.agg (encE x).toArray] ++ caps) w' fun e w'' => e = .returned (.bool (p x)) ∧ Below w'.heap.size w' w'') :
    Calls Try.prog 26 #[.pointer (some ⟨b, 0, none⟩), .func (.func 30) #[] caps] w fun e w' => e = .returned (.int .i64 (sumIf p B.es)) ∧ Below w.heap.size w w' := by
  have HP := Lib.hid hp
  clear hp
  have c0 := hB.blk.cell
  have l0 := hB.blk.lt
  have hn := hok.len
  rcases ownsRow_open hB.own with ⟨rfl, hn0, _⟩ | ⟨g, cap, cur, rfl, hg, hgb, hcap, hcm, hcs, hcur⟩
  · go_enter Try.func26, Try.ntmps26
    go_wp2_with fail
    go_loopw [5, 15] (fun s i wr => SumRel p B.es w s i wr) (fun _ i _ => (B.es.length - intOf i).toNat)
    case atStart => exact ⟨0, Nat.zero_le _, by simp [sumIf], rfl, Below.refl _ _⟩
    case round =>
      obtain ⟨k, hk, rfl, rfl, hb⟩ := hrel
      obtain rfl : k = 0 := by omega
      go_wp2_with fail
      go_ret
      refine ⟨?_, hb⟩
      rw [List.eq_nil_of_length_eq_zero hn0]
      simp [sumIf]
  · go_enter Try.func26, Try.ntmps26
    go_wp2_with fail
    go_loopw [5, 15] (fun s i wr => SumRel p B.es w s i wr) (fun _ i _ => (B.es.length - intOf i).toNat)
    case atStart => exact ⟨0, Nat.zero_le _, by simp [sumIf], rfl, Below.refl _ _⟩
    case round =>
      obtain ⟨k, hk, rfl, rfl, hb⟩ := hrel
      have hwz := hb.size
      by_cases hlt : k < B.es.length
      · obtain ⟨x, hx⟩ : ∃ x, B.es[k]? = some x := ⟨_, List.getElem?_eq_getElem hlt⟩
        have hG := hgb.step (w' := wr) (hb.mono (by omega))
        have e0 : World.cell? wr ⟨g, k * 6, none⟩ = some (.int .i64 (x).num) := rowCell encE_len hG hcur hx 0 (by omega); have e1 : World.cell? wr ⟨g, k * 6 + 1, none⟩ = some (.int .i64 (x).mach) := rowCell encE_len hG hcur hx 1 (by omega); have e2 : World.cell? wr ⟨g, k * 6 + 2, none⟩ = some (.int .i64 (x).amt) := rowCell encE_len hG hcur hx 2 (by omega); have e3 : World.cell? wr ⟨g, k * 6 + 3, none⟩ = some (.int .i64 (x).at_) := rowCell encE_len hG hcur hx 3 (by omega); have e4 : World.cell? wr ⟨g, k * 6 + 4, none⟩ = some (.int .i64 (x).til) := rowCell encE_len hG hcur hx 4 (by omega); have e5 : World.cell? wr ⟨g, k * 6 + 5, none⟩ = some (.bool (x).red) := rowCell encE_len hG hcur hx 5 (by omega)
        have fG := hG.free
        have lG := hG.lt
        go_wp2_with fail
        refine (HP.out x _ (hb.alloc (by omega) _)).mono ?_
        rintro e w1 ⟨rfl, hb1⟩
        have hz := hb1.size
        simp only [World.size_alloc] at hz
        have B0 : Blk w1 wr.heap.size 74 (encE x).toArray := (Blk.new wr 74 (encE x).toArray).step hb1
        have c1 := B0.cell
        have l1 := B0.lt
        unfold encE at c1
        have hb2 : Below w.heap.size w w1 := (hb.alloc (by omega) _).trans (hb1.mono (by simp only [World.size_alloc]; omega))
        have hbd := sumIf_bd p (B.es.take k) fun e he => hok.amt e (List.mem_of_mem_take he)
        have hbl : (B.es.take k).length ≤ 512 := by simp; omega
        have hxa := hok.amt x (List.mem_of_getElem? hx)
        have hst := sumIf_take p hx
        generalize sumIf p (B.es.take k) = S at hbd hst ⊢
        by_cases hpx : p x = true
        · rw [if_pos hpx] at hst
          go_wp2_with fail
          go_roundw
          case rel => exact ⟨k + 1, hlt, by rw [hst], by simp, hb2⟩
          case measure => simp [intOf]; omega
        · rw [if_neg hpx] at hst
          go_wp2_with fail
          go_roundw
          case rel => exact ⟨k + 1, hlt, by rw [hst]; simp, by simp, hb2⟩
          case measure => simp [intOf]; omega
      · obtain rfl : k = B.es.length := by omega
        go_wp2_with fail
        go_ret
        refine ⟨?_, hb⟩
        simp
set_option maxHeartbeats 1000000 in
theorem sum_lapsed {w : World} {base b : Nat} {sv : Value} {B : Bk} (hB : Holds w base b sv B) (hok : BkOk B) (caps : Array Value) (p : Ent → Bool)
    (hp : ∀ (x : Ent) (w' : World), Below w.heap.size w w' → Calls Try.prog 31 (#[.agg (encE x).toArray] ++ caps) w' fun e w'' => e = .returned (.bool (p x)) ∧ Below w'.heap.size w' w'') :
    Calls Try.prog 26 #[.pointer (some ⟨b, 0, none⟩), .func (.func 31) #[] caps] w fun e w' => e = .returned (.int .i64 (sumIf p B.es)) ∧ Below w.heap.size w w' := by
  have HP := Lib.hid hp
  clear hp
  have c0 := hB.blk.cell
  have l0 := hB.blk.lt
  have hn := hok.len
  rcases ownsRow_open hB.own with ⟨rfl, hn0, _⟩ | ⟨g, cap, cur, rfl, hg, hgb, hcap, hcm, hcs, hcur⟩
  · go_enter Try.func26, Try.ntmps26
    go_wp2_with fail
    go_loopw [5, 15] (fun s i wr => SumRel p B.es w s i wr) (fun _ i _ => (B.es.length - intOf i).toNat)
    case atStart => exact ⟨0, Nat.zero_le _, by simp [sumIf], rfl, Below.refl _ _⟩
    case round =>
      obtain ⟨k, hk, rfl, rfl, hb⟩ := hrel
      obtain rfl : k = 0 := by omega
      go_wp2_with fail
      go_ret
      refine ⟨?_, hb⟩
      rw [List.eq_nil_of_length_eq_zero hn0]
      simp [sumIf]
  · go_enter Try.func26, Try.ntmps26
    go_wp2_with fail
    go_loopw [5, 15] (fun s i wr => SumRel p B.es w s i wr) (fun _ i _ => (B.es.length - intOf i).toNat)
    case atStart => exact ⟨0, Nat.zero_le _, by simp [sumIf], rfl, Below.refl _ _⟩
    case round =>
      obtain ⟨k, hk, rfl, rfl, hb⟩ := hrel
      have hwz := hb.size
      by_cases hlt : k < B.es.length
      · obtain ⟨x, hx⟩ : ∃ x, B.es[k]? = some x := ⟨_, List.getElem?_eq_getElem hlt⟩
        have hG := hgb.step (w' := wr) (hb.mono (by omega))
        have e0 : World.cell? wr ⟨g, k * 6, none⟩ = some (.int .i64 (x).num) := rowCell encE_len hG hcur hx 0 (by omega); have e1 : World.cell? wr ⟨g, k * 6 + 1, none⟩ = some (.int .i64 (x).mach) := rowCell encE_len hG hcur hx 1 (by omega); have e2 : World.cell? wr ⟨g, k * 6 + 2, none⟩ = some (.int .i64 (x).amt) := rowCell encE_len hG hcur hx 2 (by omega); have e3 : World.cell? wr ⟨g, k * 6 + 3, none⟩ = some (.int .i64 (x).at_) := rowCell encE_len hG hcur hx 3 (by omega); have e4 : World.cell? wr ⟨g, k * 6 + 4, none⟩ = some (.int .i64 (x).til) := rowCell encE_len hG hcur hx 4 (by omega); have e5 : World.cell? wr ⟨g, k * 6 + 5, none⟩ = some (.bool (x).red) := rowCell encE_len hG hcur hx 5 (by omega)
        have fG := hG.free
        have lG := hG.lt
        go_wp2_with fail
        refine (HP.out x _ (hb.alloc (by omega) _)).mono ?_
        rintro e w1 ⟨rfl, hb1⟩
        have hz := hb1.size
        simp only [World.size_alloc] at hz
        have B0 : Blk w1 wr.heap.size 74 (encE x).toArray := (Blk.new wr 74 (encE x).toArray).step hb1
        have c1 := B0.cell
        have l1 := B0.lt
        unfold encE at c1
        have hb2 : Below w.heap.size w w1 := (hb.alloc (by omega) _).trans (hb1.mono (by simp only [World.size_alloc]; omega))
        have hbd := sumIf_bd p (B.es.take k) fun e he => hok.amt e (List.mem_of_mem_take he)
        have hbl : (B.es.take k).length ≤ 512 := by simp; omega
        have hxa := hok.amt x (List.mem_of_getElem? hx)
        have hst := sumIf_take p hx
        generalize sumIf p (B.es.take k) = S at hbd hst ⊢
        by_cases hpx : p x = true
        · rw [if_pos hpx] at hst
          go_wp2_with fail
          go_roundw
          case rel => exact ⟨k + 1, hlt, by rw [hst], by simp, hb2⟩
          case measure => simp [intOf]; omega
        · rw [if_neg hpx] at hst
          go_wp2_with fail
          go_roundw
          case rel => exact ⟨k + 1, hlt, by rw [hst]; simp, by simp, hb2⟩
          case measure => simp [intOf]; omega
      · obtain rfl : k = B.es.length := by omega
        go_wp2_with fail
        go_ret
        refine ⟨?_, hb⟩
        simp
set_option maxHeartbeats 1000000 in
theorem sum_tot1 {w : World} {base b : Nat} {sv : Value} {B : Bk} (hB : Holds w base b sv B) (hok : BkOk B) (caps : Array Value) (p : Ent → Bool)
    (hp : ∀ (x : Ent) (w' : World), Below w.heap.size w w' → Calls Try.prog 27 (#[.agg (encE x).toArray] ++ caps) w' fun e w'' => e = .returned (.bool (p x)) ∧ Below w'.heap.size w' w'') :
    Calls Try.prog 26 #[.pointer (some ⟨b, 0, none⟩), .func (.func 27) #[] caps] w fun e w' => e = .returned (.int .i64 (sumIf p B.es)) ∧ Below w.heap.size w w' := by
  have HP := Lib.hid hp
  clear hp
  have c0 := hB.blk.cell
  have l0 := hB.blk.lt
  have hn := hok.len
  rcases ownsRow_open hB.own with ⟨rfl, hn0, _⟩ | ⟨g, cap, cur, rfl, hg, hgb, hcap, hcm, hcs, hcur⟩
  · go_enter Try.func26, Try.ntmps26
    go_wp2_with fail
    go_loopw [5, 15] (fun s i wr => SumRel p B.es w s i wr) (fun _ i _ => (B.es.length - intOf i).toNat)
    case atStart => exact ⟨0, Nat.zero_le _, by simp [sumIf], rfl, Below.refl _ _⟩
    case round =>
      obtain ⟨k, hk, rfl, rfl, hb⟩ := hrel
      obtain rfl : k = 0 := by omega
      go_wp2_with fail
      go_ret
      refine ⟨?_, hb⟩
      rw [List.eq_nil_of_length_eq_zero hn0]
      simp [sumIf]
  · go_enter Try.func26, Try.ntmps26
    go_wp2_with fail
    go_loopw [5, 15] (fun s i wr => SumRel p B.es w s i wr) (fun _ i _ => (B.es.length - intOf i).toNat)
    case atStart => exact ⟨0, Nat.zero_le _, by simp [sumIf], rfl, Below.refl _ _⟩
    case round =>
      obtain ⟨k, hk, rfl, rfl, hb⟩ := hrel
      have hwz := hb.size
      by_cases hlt : k < B.es.length
      · obtain ⟨x, hx⟩ : ∃ x, B.es[k]? = some x := ⟨_, List.getElem?_eq_getElem hlt⟩
        have hG := hgb.step (w' := wr) (hb.mono (by omega))
        have e0 : World.cell? wr ⟨g, k * 6, none⟩ = some (.int .i64 (x).num) := rowCell encE_len hG hcur hx 0 (by omega); have e1 : World.cell? wr ⟨g, k * 6 + 1, none⟩ = some (.int .i64 (x).mach) := rowCell encE_len hG hcur hx 1 (by omega); have e2 : World.cell? wr ⟨g, k * 6 + 2, none⟩ = some (.int .i64 (x).amt) := rowCell encE_len hG hcur hx 2 (by omega); have e3 : World.cell? wr ⟨g, k * 6 + 3, none⟩ = some (.int .i64 (x).at_) := rowCell encE_len hG hcur hx 3 (by omega); have e4 : World.cell? wr ⟨g, k * 6 + 4, none⟩ = some (.int .i64 (x).til) := rowCell encE_len hG hcur hx 4 (by omega); have e5 : World.cell? wr ⟨g, k * 6 + 5, none⟩ = some (.bool (x).red) := rowCell encE_len hG hcur hx 5 (by omega)
        have fG := hG.free
        have lG := hG.lt
        go_wp2_with fail
        refine (HP.out x _ (hb.alloc (by omega) _)).mono ?_
        rintro e w1 ⟨rfl, hb1⟩
        have hz := hb1.size
        simp only [World.size_alloc] at hz
        have B0 : Blk w1 wr.heap.size 74 (encE x).toArray := (Blk.new wr 74 (encE x).toArray).step hb1
        have c1 := B0.cell
        have l1 := B0.lt
        unfold encE at c1
        have hb2 : Below w.heap.size w w1 := (hb.alloc (by omega) _).trans (hb1.mono (by simp only [World.size_alloc]; omega))
        have hbd := sumIf_bd p (B.es.take k) fun e he => hok.amt e (List.mem_of_mem_take he)
        have hbl : (B.es.take k).length ≤ 512 := by simp; omega
        have hxa := hok.amt x (List.mem_of_getElem? hx)
        have hst := sumIf_take p hx
        generalize sumIf p (B.es.take k) = S at hbd hst ⊢
        by_cases hpx : p x = true
        · rw [if_pos hpx] at hst
          go_wp2_with fail
          go_roundw
          case rel => exact ⟨k + 1, hlt, by rw [hst], by simp, hb2⟩
          case measure => simp [intOf]; omega
        · rw [if_neg hpx] at hst
          go_wp2_with fail
          go_roundw
          case rel => exact ⟨k + 1, hlt, by rw [hst]; simp, by simp, hb2⟩
          case measure => simp [intOf]; omega
      · obtain rfl : k = B.es.length := by omega
        go_wp2_with fail
        go_ret
        refine ⟨?_, hb⟩
        simp
set_option maxHeartbeats 1000000 in
theorem sum_tot2 {w : World} {base b : Nat} {sv : Value} {B : Bk} (hB : Holds w base b sv B) (hok : BkOk B) (caps : Array Value) (p : Ent → Bool)
    (hp : ∀ (x : Ent) (w' : World), Below w.heap.size w w' → Calls Try.prog 28 (#[.agg (encE x).toArray] ++ caps) w' fun e w'' => e = .returned (.bool (p x)) ∧ Below w'.heap.size w' w'') :
    Calls Try.prog 26 #[.pointer (some ⟨b, 0, none⟩), .func (.func 28) #[] caps] w fun e w' => e = .returned (.int .i64 (sumIf p B.es)) ∧ Below w.heap.size w w' := by
  have HP := Lib.hid hp
  clear hp
  have c0 := hB.blk.cell
  have l0 := hB.blk.lt
  have hn := hok.len
  rcases ownsRow_open hB.own with ⟨rfl, hn0, _⟩ | ⟨g, cap, cur, rfl, hg, hgb, hcap, hcm, hcs, hcur⟩
  · go_enter Try.func26, Try.ntmps26
    go_wp2_with fail
    go_loopw [5, 15] (fun s i wr => SumRel p B.es w s i wr) (fun _ i _ => (B.es.length - intOf i).toNat)
    case atStart => exact ⟨0, Nat.zero_le _, by simp [sumIf], rfl, Below.refl _ _⟩
    case round =>
      obtain ⟨k, hk, rfl, rfl, hb⟩ := hrel
      obtain rfl : k = 0 := by omega
      go_wp2_with fail
      go_ret
      refine ⟨?_, hb⟩
      rw [List.eq_nil_of_length_eq_zero hn0]
      simp [sumIf]
  · go_enter Try.func26, Try.ntmps26
    go_wp2_with fail
    go_loopw [5, 15] (fun s i wr => SumRel p B.es w s i wr) (fun _ i _ => (B.es.length - intOf i).toNat)
    case atStart => exact ⟨0, Nat.zero_le _, by simp [sumIf], rfl, Below.refl _ _⟩
    case round =>
      obtain ⟨k, hk, rfl, rfl, hb⟩ := hrel
      have hwz := hb.size
      by_cases hlt : k < B.es.length
      · obtain ⟨x, hx⟩ : ∃ x, B.es[k]? = some x := ⟨_, List.getElem?_eq_getElem hlt⟩
        have hG := hgb.step (w' := wr) (hb.mono (by omega))
        have e0 : World.cell? wr ⟨g, k * 6, none⟩ = some (.int .i64 (x).num) := rowCell encE_len hG hcur hx 0 (by omega); have e1 : World.cell? wr ⟨g, k * 6 + 1, none⟩ = some (.int .i64 (x).mach) := rowCell encE_len hG hcur hx 1 (by omega); have e2 : World.cell? wr ⟨g, k * 6 + 2, none⟩ = some (.int .i64 (x).amt) := rowCell encE_len hG hcur hx 2 (by omega); have e3 : World.cell? wr ⟨g, k * 6 + 3, none⟩ = some (.int .i64 (x).at_) := rowCell encE_len hG hcur hx 3 (by omega); have e4 : World.cell? wr ⟨g, k * 6 + 4, none⟩ = some (.int .i64 (x).til) := rowCell encE_len hG hcur hx 4 (by omega); have e5 : World.cell? wr ⟨g, k * 6 + 5, none⟩ = some (.bool (x).red) := rowCell encE_len hG hcur hx 5 (by omega)
        have fG := hG.free
        have lG := hG.lt
        go_wp2_with fail
        refine (HP.out x _ (hb.alloc (by omega) _)).mono ?_
        rintro e w1 ⟨rfl, hb1⟩
        have hz := hb1.size
        simp only [World.size_alloc] at hz
        have B0 : Blk w1 wr.heap.size 74 (encE x).toArray := (Blk.new wr 74 (encE x).toArray).step hb1
        have c1 := B0.cell
        have l1 := B0.lt
        unfold encE at c1
        have hb2 : Below w.heap.size w w1 := (hb.alloc (by omega) _).trans (hb1.mono (by simp only [World.size_alloc]; omega))
        have hbd := sumIf_bd p (B.es.take k) fun e he => hok.amt e (List.mem_of_mem_take he)
        have hbl : (B.es.take k).length ≤ 512 := by simp; omega
        have hxa := hok.amt x (List.mem_of_getElem? hx)
        have hst := sumIf_take p hx
        generalize sumIf p (B.es.take k) = S at hbd hst ⊢
        by_cases hpx : p x = true
        · rw [if_pos hpx] at hst
          go_wp2_with fail
          go_roundw
          case rel => exact ⟨k + 1, hlt, by rw [hst], by simp, hb2⟩
          case measure => simp [intOf]; omega
        · rw [if_neg hpx] at hst
          go_wp2_with fail
          go_roundw
          case rel => exact ⟨k + 1, hlt, by rw [hst]; simp, by simp, hb2⟩
          case measure => simp [intOf]; omega
      · obtain rfl : k = B.es.length := by omega
        go_wp2_with fail
        go_ret
        refine ⟨?_, hb⟩
        simp

end Go.Proofs.Ytbpeiljpbcgjaaa
