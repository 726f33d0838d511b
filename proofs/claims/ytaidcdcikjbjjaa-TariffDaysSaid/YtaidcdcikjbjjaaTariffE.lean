/- Contracts: items of an emptying in both; equal lists of items. -/
import Derived.Test.YtaidcdcikjbjjaaTariffD
import Derived.Deep.DeepCutAuto
namespace Go.Proofs.Ytaidcdcikjbjjaa
set_option linter.unusedVariables false
set_option linter.unusedSimpArgs false
open Go.RowKit

def encIsame (x : Itm) : List Value := encI x

def SameRel (w : World) (n : Nat) (i : Value) (wr : World) : Prop := ∃ k : Nat, k ≤ n ∧ i = .int .i64 k ∧ Below w.heap.size w wr
set_option maxHeartbeats 1000000 in
theorem same_any {w : World} {v v' : Value} {l : List Itm} (hl : RowIn w v 5 encI l) (hl' : RowIn w v' 5 encI l) : Calls Try.prog 19 #[v, v'] w fun e w' => e = .returned (.bool true) ∧ Below w.heap.size w w' := by
  obtain ⟨oa, cap, rfl, hlc1, hlc2, hnn, hlc⟩ := hl.at_
  obtain ⟨ob, cap', rfl, hlc1', hlc2', hnn', hlc'⟩ := hl'.at_
  unfold maxLen at hlc2 hlc2'
  have HL := Lib.hid hlc
  have HL' := Lib.hid hlc'
  clear hlc hlc' hnn hnn' hl hl'
  go_enter Try.func19, Try.ntmps19
  go_wp2_with fail
  go_loopw [5] (fun i wr => SameRel w l.length i wr) (fun i _ => (l.length - intOf i).toNat)
  case atStart => exact ⟨0, Nat.zero_le _, rfl, Below.refl _ _⟩
  case round =>
    obtain ⟨k, hk, rfl, hb⟩ := hrel
    by_cases hlt : k < l.length
    · obtain ⟨x, hx⟩ : ∃ x, l[k]? = some x := ⟨_, List.getElem?_eq_getElem hlt⟩
      obtain ⟨lb, lo, ho, hll, hlc⟩ := HL.out (by rintro rfl; simp at hlt)
      obtain ⟨lb', lo', ho', hll', hlc'⟩ := HL'.out (by rintro rfl; simp at hlt)
      rw [ho, ho']
      have q : ∀ j, wr.cell? ⟨lb, j, none⟩ = w.cell? ⟨lb, j, none⟩ := fun j => hb.cell (p := ⟨lb, j, none⟩) hll
      have q' : ∀ j, wr.cell? ⟨lb', j, none⟩ = w.cell? ⟨lb', j, none⟩ := fun j => hb.cell (p := ⟨lb', j, none⟩) hll'
      have e0 : wr.cell? ⟨lb, lo + k * 5, none⟩ = some (.int .i64 x.kind) := (q _).trans (hlc k x hx 0 (by omega))
      have e1 : wr.cell? ⟨lb, lo + k * 5 + 1, none⟩ = some (.int .i64 x.ref) := (q _).trans (hlc k x hx 1 (by omega))
      have e2 : wr.cell? ⟨lb, lo + k * 5 + 2, none⟩ = some (.int .i64 x.cnt) := (q _).trans (hlc k x hx 2 (by omega))
      have e3 : wr.cell? ⟨lb, lo + k * 5 + 3, none⟩ = some (.int .i64 x.price) := (q _).trans (hlc k x hx 3 (by omega))
      have e4 : wr.cell? ⟨lb, lo + k * 5 + 4, none⟩ = some (.int .i64 x.amt) := (q _).trans (hlc k x hx 4 (by omega))
      have f0 : wr.cell? ⟨lb', lo' + k * 5, none⟩ = some (.int .i64 x.kind) := (q' _).trans (hlc' k x hx 0 (by omega))
      have f1 : wr.cell? ⟨lb', lo' + k * 5 + 1, none⟩ = some (.int .i64 x.ref) := (q' _).trans (hlc' k x hx 1 (by omega))
      have f2 : wr.cell? ⟨lb', lo' + k * 5 + 2, none⟩ = some (.int .i64 x.cnt) := (q' _).trans (hlc' k x hx 2 (by omega))
      have f3 : wr.cell? ⟨lb', lo' + k * 5 + 3, none⟩ = some (.int .i64 x.price) := (q' _).trans (hlc' k x hx 3 (by omega))
      have f4 : wr.cell? ⟨lb', lo' + k * 5 + 4, none⟩ = some (.int .i64 x.amt) := (q' _).trans (hlc' k x hx 4 (by omega))
      clear q q'
      have i0 : (0 : Int) ≤ k := by omega
      have i1 : (k : Int) < l.length := by omega
      go_wp2_with fail
      go_quiet (fail)
      go_wp2_with fail
      go_roundw
      case rel => exact ⟨k + 1, hlt, by simp, hb.trans ((Below.of_drewN wr nq).mono hb.size)⟩
      case measure => simp [intOf]; omega
    · obtain rfl : k = l.length := by omega
      go_wp2_with fail
      go_ret
      exact ⟨rfl, hb⟩

theorem priced_any (k : Int) (w : World) : Calls Try.prog 28 #[.int .i64 k] w fun e w' => e = .returned (.func (.func 29) #[] #[.pointer (some ⟨w.heap.size, 0, none⟩)]) ∧ w.alloc (.cells #[.int .i64 k] 3) = w' := by
  go_enter Try.func28, Try.ntmps28
  go_wp2_with fail
  go_ret
  exact ⟨rfl, rfl⟩

theorem priced1_any (k ref cnt price : Int) (p : Nat) (w : World) (hp : Blk w p 3 #[.int .i64 k]) (h1 : 0 ≤ cnt * price) (h2 : cnt * price ≤ 1000000000000000) :
    Calls Try.prog 29 #[.int .i64 ref, .int .i64 cnt, .int .i64 price, .pointer (some ⟨p, 0, none⟩)] w fun e w' => e = .returned (.agg (encI ⟨k, ref, cnt, price, cnt * price⟩).toArray) ∧ Below w.heap.size w w' := by
  have c0 := hp.cell
  have l0 := hp.lt
  unfold encI
  go_enter Try.func29, Try.ntmps29
  go_wp2_with fail
  refine bodyPost_ret (v := .agg #[.int .i64 k, .int .i64 ref, .int .i64 cnt, .int .i64 price, .int .i64 (cnt * price)]) (by simp only [results, Try.results29]; go_simp; first | done | rfl) rfl ⟨rfl, ?_⟩
  repeat (first | (with_reducible exact Below.refl _ _) | (with_reducible assumption) | (with_reducible refine Below.drew ?_) | ((with_reducible refine Below.alloc ?_ ?_ _); rotate_left; (first | (with_reducible exact Nat.zero_le _) | (with_reducible exact Nat.le_refl _) | omega | (dsimp only; omega) | (simp only [World.size_alloc, World.size_setCell, World.size_drew]; omega))) | ((with_reducible refine Below.setCell ?_ ?_ _); rotate_left; (first | (with_reducible exact Nat.zero_le _) | (with_reducible exact Nat.le_refl _) | omega | (dsimp only; omega) | (simp only [World.size_alloc, World.size_setCell, World.size_drew]; omega))))

def itOut (w : World) (l : List Itm) (z : Int) (e : Ending) (w' : World) : Prop := ∃ v, e = .returned (.tuple #[v, .int .i64 z]) ∧ RowIn w' v 5 encI l ∧ Below w.heap.size w w'


theorem own_drew {w : World} {base : Nat} {e : TypeId} {size : Nat} {v : Value} {n : Nat} {xs : List Value} (h : w.ownsRow base e size v n xs) : w.drew.ownsRow base e size v n xs := h
set_option maxHeartbeats 2000000 in
theorem items_any (t : Tf) (id cn ve at_ lo hi : Int) (vo : Bool) (w : World) : Calls Try.prog 17 #[.agg (encT (t)).toArray, .agg #[.int .i64 id, .int .i64 cn, .int .i64 ve, .int .i64 at_, .int .i64 lo, .int .i64 hi, .bool vo]] w (itOut w (itL t id lo hi) (itE t id lo hi)) := by
  have hE : itE t id lo hi = if wE t lo hi = 0 ∧ within 1 id 1000000 = true then 0 else 1 := rfl
  have hL : itL t id lo hi = if itE t id lo hi = 0 then ⟨2, id, 1, t.empty, t.empty⟩ :: (if wV t lo hi > 0 then [⟨3, id, wV t lo hi, t.kilo, wV t lo hi * t.kilo⟩] else []) else [] := rfl
  have B0 : Blk ((w.alloc (.cells #[.int .i64 t.frm, .int .i64 t.base, .int .i64 t.empty, .int .i64 t.kilo, .int .i64 t.free] 31)).alloc (.cells #[.int .i64 id, .int .i64 cn, .int .i64 ve, .int .i64 at_, .int .i64 lo, .int .i64 hi, .bool vo] 37)) w.heap.size 31 #[.int .i64 t.frm, .int .i64 t.base, .int .i64 t.empty, .int .i64 t.kilo, .int .i64 t.free] := (Blk.new w 31 #[.int .i64 t.frm, .int .i64 t.base, .int .i64 t.empty, .int .i64 t.kilo, .int .i64 t.free]).alloc _
  have B1 : Blk ((w.alloc (.cells #[.int .i64 t.frm, .int .i64 t.base, .int .i64 t.empty, .int .i64 t.kilo, .int .i64 t.free] 31)).alloc (.cells #[.int .i64 id, .int .i64 cn, .int .i64 ve, .int .i64 at_, .int .i64 lo, .int .i64 hi, .bool vo] 37)) (w.heap.size + 1) 37 #[.int .i64 id, .int .i64 cn, .int .i64 ve, .int .i64 at_, .int .i64 lo, .int .i64 hi, .bool vo] := by
    have := Blk.new (w.alloc (.cells #[.int .i64 t.frm, .int .i64 t.base, .int .i64 t.empty, .int .i64 t.kilo, .int .i64 t.free] 31)) 37 #[.int .i64 id, .int .i64 cn, .int .i64 ve, .int .i64 at_, .int .i64 lo, .int .i64 hi, .bool vo]
    simpa using this
  have hb0 : Below w.heap.size w ((w.alloc (.cells #[.int .i64 t.frm, .int .i64 t.base, .int .i64 t.empty, .int .i64 t.kilo, .int .i64 t.free] 31)).alloc (.cells #[.int .i64 id, .int .i64 cn, .int .i64 ve, .int .i64 at_, .int .i64 lo, .int .i64 hi, .bool vo] 37)) := by repeat (first | (with_reducible exact Below.refl _ _) | (with_reducible assumption) | (with_reducible refine Below.drew ?_) | ((with_reducible refine Below.alloc ?_ ?_ _); rotate_left; (first | (with_reducible exact Nat.zero_le _) | (with_reducible exact Nat.le_refl _) | omega | (dsimp only; omega) | (simp only [World.size_alloc, World.size_setCell, World.size_drew]; omega))) | ((with_reducible refine Below.setCell ?_ ?_ _); rotate_left; (first | (with_reducible exact Nat.zero_le _) | (with_reducible exact Nat.le_refl _) | omega | (dsimp only; omega) | (simp only [World.size_alloc, World.size_setCell, World.size_drew]; omega))))
  have hwt := fun w => weight_any t lo hi w
  have hwv : wE t lo hi = 0 → 0 ≤ t.empty ∧ t.empty ≤ 100000 ∧ 0 ≤ t.kilo ∧ t.kilo ≤ 100000 ∧ 0 ≤ wV t lo hi ∧ wV t lo hi ≤ 1073742 := fun h => by
    obtain ⟨h1, h2⟩ := wV_ok h
    obtain ⟨_, _, h3, h4, h5, h6, h7, h8⟩ := tuse_bd h1
    obtain ⟨g1, g2, g3⟩ := wok_bd h2
    refine ⟨h3, h4, h5, h6, ?_⟩
    unfold wV
    rw [if_pos h]
    split <;> omega
  unfold encT at *
  generalize wE t lo hi = we at *
  generalize wV t lo hi = wv at *
  by_cases hw : we = 0
  · obtain ⟨h3, h4, h5, h6, h7, h8⟩ := hwv hw
    generalize hid : within 1 id 1000000 = b at *
    cases b with
    | false =>
      rw [if_neg (by simp)] at hE
      rw [hE, if_neg (by omega)] at hL
      subst hw
      rw [hE, hL]
      clear hL hE hwv
      go_enter Try.func17, Try.ntmps17
      go_wp2_with fail
      refine (hwt _).mono ?_
      rintro e w1 ⟨rfl, hb1⟩
      replace B0 := B0.step hb1
      replace B1 := B1.step hb1
      replace hb0 := hb0.trans (hb1.mono hb0.size)
      have c0 := B0.cell
      have l0 := B0.lt
      have c1 := B1.cell
      have l1 := B1.lt
      go_wp2_with (go_at_call 23; refine (between_any _ _ _ _).mono ?_; rintro e w' ⟨rfl, rfl⟩)
      go_ret2
      exact ⟨_, rfl, .nil _ _ _, hb0⟩
    | true =>
      rw [if_pos ⟨hw, rfl⟩] at hE
      rw [hE, if_pos rfl] at hL
      subst hw
      rw [hE]
      have HL := Lib.hid hL
      have hm1 : 0 ≤ wv * t.kilo := Int.mul_nonneg h7 h5
      have hm2 : wv * t.kilo ≤ 1073742 * 100000 := Int.mul_le_mul h8 h6 h5 (by omega)
      clear hL hE hwv
      go_enter Try.func17, Try.ntmps17
      go_wp2_with fail
      refine (hwt _).mono ?_
      rintro e w1 ⟨rfl, hb1⟩
      replace B0 := B0.step hb1
      replace B1 := B1.step hb1
      replace hb0 := hb0.trans (hb1.mono hb0.size)
      have c0 := B0.cell
      have l0 := B0.lt
      have c1 := B1.cell
      have l1 := B1.lt
      go_wp2_with (go_at_call 23; refine (between_any _ _ _ _).mono ?_; rintro e w' ⟨rfl, rfl⟩)
      go_region_held3 (fun w' => w'.cell? ⟨w.heap.size + 1, 0, none⟩ = some (.int .i64 id) ∧ w'.cell? ⟨w.heap.size, 2, none⟩ = some (.int .i64 t.empty)) (go_keep)
        (first | (go_at_call 28; refine (priced_any 2 _).mono ?_; rintro e w2 ⟨rfl, rfl⟩) | (go_at_call 29; refine (priced1_any 2 id 1 t.empty _ _ (Blk.new w1 _ _).drew (by omega) (by omega)).mono ?_; rintro e w3 ⟨rfl, hb3⟩; have k0 := hb3.cell (p := ⟨w.heap.size + 1, 0, none⟩) (by simp; omega); have k1 := hb3.cell (p := ⟨w.heap.size, 2, none⟩) (by simp; omega); unfold encI))
      have l1' := l1
      clear c0 l0 c1 l1 k0 k1
      have hz3 : w1.heap.size < w3.heap.size := by have := hb3.size; simp at this; omega
      have hbx : Below w1.heap.size w1 (w3.alloc (.cells #[.int .i64 2, .int .i64 id, .int .i64 1, .int .i64 t.empty, .int .i64 t.empty] 49)) := (((((Below.refl _ _).alloc (Nat.le_refl _) _).drew).trans (hb3.mono (by simp))).alloc (by omega) _)
      have own8 : (w3.alloc (.cells #[.int .i64 2, .int .i64 id, .int .i64 1, .int .i64 t.empty, .int .i64 t.empty] 49)).ownsRow w.heap.size 49 5 (.slice (some ⟨w3.heap.size, 0, none⟩) 1 1) 1 (encI ⟨2, id, 1, t.empty, t.empty⟩) :=
        ⟨rfl, .inr ⟨w3.heap.size, 1, #[.int .i64 2, .int .i64 id, .int .i64 1, .int .i64 t.empty, .int .i64 t.empty], rfl, by have := hb0.size; omega, Blk.new w3 49 #[.int .i64 2, .int .i64 id, .int .i64 1, .int .i64 t.empty, .int .i64 t.empty], Nat.le_refl _, by simp [maxLen], rfl, rfl⟩⟩
      replace B0 := B0.step hbx
      replace B1 := B1.step hbx
      replace hb0 := hb0.trans (hbx.mono hb0.size)
      have hg8 : w.heap.size + 1 < w3.heap.size := by omega
      generalize w3.heap.size = g8 at *
      generalize w3.alloc (.cells #[.int .i64 2, .int .i64 id, .int .i64 1, .int .i64 t.empty, .int .i64 t.empty] 49) = w8 at *
      clear hbx hz3 hb3
      have c0 := B0.cell
      have l0 := B0.lt
      have c1 := B1.cell
      have l1 := B1.lt
      by_cases hpos : wv > 0
      · have hL := HL.out
        rw [if_pos hpos] at hL
        replace HL := Lib.hid hL
        clear hL
        obtain ⟨i, hi, hz, hsi, hby⟩ : ∃ i, Try.prog.info? 49 = some i ∧ i.zero = some (.agg #[.int .i64 0, .int .i64 0, .int .i64 0, .int .i64 0, .int .i64 0]) ∧ i.size = 5 ∧ i.bytes = 40 := info_of (by kernel_rfl)
        have hone1 : ∀ x : Itm, ∀ u ∈ encI x, u.oneCell' = true := by
          intro x u hu
          simp only [encI, List.mem_cons, List.not_mem_nil, or_false] at hu
          rcases hu with rfl | rfl | rfl | rfl | rfl <;> rfl
        have hbs := hb0.size
        go_wp2_with fail
        go_region_held3 (fun w' => w'.cell? ⟨w.heap.size + 1, 0, none⟩ = some (.int .i64 id) ∧ w'.cell? ⟨w.heap.size, 3, none⟩ = some (.int .i64 t.kilo)) (go_keep)
          (first | (go_at_call 28; refine (priced_any 3 _).mono ?_; rintro e w2 ⟨rfl, rfl⟩) | (go_at_call 29; refine (priced1_any 3 id wv t.kilo _ _ (Blk.new w8 _ _).drew hm1 (by omega)).mono ?_; rintro e w5 ⟨rfl, hb5⟩; have k0 := hb5.cell (p := ⟨w.heap.size + 1, 0, none⟩) (by simp; omega); have k1 := hb5.cell (p := ⟨w.heap.size, 3, none⟩) (by simp; omega); have own5 := ownsRow_step (own_drew (own8.alloc (.cells #[.int .i64 3] 3))) hb5; have hz5 : w8.heap.size < w5.heap.size := (by have := hb5.size; simp at this; omega); unfold encI) | (refine step_append_any _ (by rfl) _ _ _ (by rfl) w.heap.size 49 i _ 5 40 Try.underlying38 hi hz hsi hby (by rfl) (by omega) _ 1 _ (by rfl) (own5.alloc (.cells #[.int .i64 3, .int .i64 id, .int .i64 wv, .int .i64 t.kilo, .int .i64 (wv * t.kilo)] 49)) _ 1 (encI ⟨3, id, wv, t.kilo, wv * t.kilo⟩) (by rfl) (Src.of_blk (cs := #[.int .i64 3, .int .i64 id, .int .i64 wv, .int .i64 t.kilo, .int .i64 (wv * t.kilo)]) (Blk.new w5 49 #[.int .i64 3, .int .i64 id, .int .i64 wv, .int .i64 t.kilo, .int .i64 (wv * t.kilo)]) 1) (by rfl) (hone1 _) (by simp [maxLen]) (by omega) (by simp only [World.size_alloc]; omega) ?_; intro v6 w6 own6 hg6 hat6; have k2 := hg6.cell_far (a := ⟨w.heap.size + 1, 0, none⟩) (by simp; omega) (by simp [Value.ownBlock]; omega); have k3 := hg6.cell_far (a := ⟨w.heap.size, 3, none⟩) (by simp; omega) (by simp [Value.ownBlock]; omega)))
        all_goals (
          go_wp2_with fail
          go_ret2
          refine ⟨_, rfl, ?_, ?_⟩
          · rw [HL.out]
            exact RowIn.of_own (l := [_, _]) encI_len (by simpa using own6)
          · have h5b : Below w.heap.size w w5 := ((hb0.alloc hb0.size _).drew).trans (hb5.mono (by simp; omega))
            exact Below.grown (h5b.alloc (by omega) _) hg6 (by simp; omega) (fun j hj => by simp [Value.ownBlock] at hj; omega))
      · have hL := HL.out
        rw [if_neg hpos] at hL
        replace HL := Lib.hid hL
        clear hL
        go_wp2_with fail
        go_ret2
        refine ⟨_, rfl, ?_, hb0⟩
        rw [HL.out]
        exact RowIn.of_own (l := [_]) encI_len own8
  · rw [if_neg (fun h => hw h.1)] at hE
    rw [hE, if_neg (by omega)] at hL
    have hw' : (we != 0) = true := by simpa using hw
    rw [hE, hL]
    clear hL hE hwv hw
    go_enter Try.func17, Try.ntmps17
    go_wp2_with fail
    refine (hwt _).mono ?_
    rintro e w1 ⟨rfl, hb1⟩
    replace hb0 := hb0.trans (hb1.mono hb0.size)
    go_wp2_with fail
    go_ret2
    exact ⟨_, rfl, .nil _ _ _, hb0⟩

end Go.Proofs.Ytaidcdcikjbjjaa
