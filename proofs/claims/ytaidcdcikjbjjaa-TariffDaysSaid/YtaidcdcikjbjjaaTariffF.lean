/- Contract: the reference's items of an emptying. -/
import Derived.Test.YtaidcdcikjbjjaaTariffE
namespace Go.Proofs.Ytaidcdcikjbjjaa
set_option linter.unusedVariables false
set_option linter.unusedSimpArgs false
open Go.RowKit

set_option maxHeartbeats 2000000 in
theorem ritems_any (t : Tf) (id cn ve at_ lo hi : Int) (vo : Bool) (w : World) : Calls Try.prog 18 #[.agg (encT (t)).toArray, .agg #[.int .i64 id, .int .i64 cn, .int .i64 ve, .int .i64 at_, .int .i64 lo, .int .i64 hi, .bool vo]] w (itOut w (itL t id lo hi) (itE t id lo hi)) := by
  have hE : itE t id lo hi = if wE t lo hi = 0 ∧ within 1 id 1000000 = true then 0 else 1 := rfl
  have hL : itL t id lo hi = if itE t id lo hi = 0 then ⟨2, id, 1, t.empty, t.empty⟩ :: (if wV t lo hi > 0 then [⟨3, id, wV t lo hi, t.kilo, wV t lo hi * t.kilo⟩] else []) else [] := rfl
  have B0 : Blk ((w.alloc (.cells #[.int .i64 t.frm, .int .i64 t.base, .int .i64 t.empty, .int .i64 t.kilo, .int .i64 t.free] 31)).alloc (.cells #[.int .i64 id, .int .i64 cn, .int .i64 ve, .int .i64 at_, .int .i64 lo, .int .i64 hi, .bool vo] 37)) w.heap.size 31 #[.int .i64 t.frm, .int .i64 t.base, .int .i64 t.empty, .int .i64 t.kilo, .int .i64 t.free] := (Blk.new w 31 #[.int .i64 t.frm, .int .i64 t.base, .int .i64 t.empty, .int .i64 t.kilo, .int .i64 t.free]).alloc _
  have B1 : Blk ((w.alloc (.cells #[.int .i64 t.frm, .int .i64 t.base, .int .i64 t.empty, .int .i64 t.kilo, .int .i64 t.free] 31)).alloc (.cells #[.int .i64 id, .int .i64 cn, .int .i64 ve, .int .i64 at_, .int .i64 lo, .int .i64 hi, .bool vo] 37)) (w.heap.size + 1) 37 #[.int .i64 id, .int .i64 cn, .int .i64 ve, .int .i64 at_, .int .i64 lo, .int .i64 hi, .bool vo] := by
    have := Blk.new (w.alloc (.cells #[.int .i64 t.frm, .int .i64 t.base, .int .i64 t.empty, .int .i64 t.kilo, .int .i64 t.free] 31)) 37 #[.int .i64 id, .int .i64 cn, .int .i64 ve, .int .i64 at_, .int .i64 lo, .int .i64 hi, .bool vo]
    simpa using this
  have hb0 : Below w.heap.size w ((w.alloc (.cells #[.int .i64 t.frm, .int .i64 t.base, .int .i64 t.empty, .int .i64 t.kilo, .int .i64 t.free] 31)).alloc (.cells #[.int .i64 id, .int .i64 cn, .int .i64 ve, .int .i64 at_, .int .i64 lo, .int .i64 hi, .bool vo] 37)) := by repeat (first | (with_reducible exact Below.refl _ _) | (with_reducible assumption) | (with_reducible refine Below.drew ?_) | ((with_reducible refine Below.alloc ?_ ?_ _); rotate_left; (first | (with_reducible exact Nat.zero_le _) | (with_reducible exact Nat.le_refl _) | omega | (dsimp only; omega) | (simp only [World.size_alloc, World.size_setCell, World.size_drew]; omega))) | ((with_reducible refine Below.setCell ?_ ?_ _); rotate_left; (first | (with_reducible exact Nat.zero_le _) | (with_reducible exact Nat.le_refl _) | omega | (dsimp only; omega) | (simp only [World.size_alloc, World.size_setCell, World.size_drew]; omega))))
  have hwt := fun w => rweight_any t lo hi w
  have hwv : wE t lo hi = 0 → 0 ≤ t.empty ∧ t.empty ≤ 100000 ∧ 0 ≤ t.kilo ∧ t.kilo ≤ 100000 ∧ 0 ≤ wV t lo hi ∧ wV t lo hi ≤ 1073742 := fun h => by
    obtain ⟨h1, h2⟩ := wV_ok h
    obtain ⟨_, _, h3, h4, h5, h6, h7, h8⟩ := tuse_bd h1
    obtain ⟨g1, g2, g3⟩ := wok_bd h2
    refine ⟨h3, h4, h5, h6, ?_⟩
    unfold wV
    rw [if_pos h]
    split <;> omega
  unfold encT at *
  generalize wE t lo hi = we at *
  generalize wV t lo hi = wv at *
  by_cases hw : we = 0
  · obtain ⟨h3, h4, h5, h6, h7, h8⟩ := hwv hw
    generalize hid : within 1 id 1000000 = b at *
    cases b with
    | false =>
      rw [if_neg (by simp)] at hE
      rw [hE, if_neg (by omega)] at hL
      subst hw
      rw [hE, hL]
      clear hL hE hwv
      have hidc : id < 1 ∨ (¬ id < 1 ∧ id > 1000000) := by
        rcases Decidable.em (1 ≤ id ∧ id ≤ 1000000) with h | h
        · have : within 1 id 1000000 = true := by simp [within, h.1, h.2]
          rw [hid] at this; cases this
        · omega
      clear hid
      rcases hidc with h9 | ⟨h9, h10⟩
      all_goals (
        go_enter Try.func18, Try.ntmps18
        go_wp2_with fail
        refine (hwt _).mono ?_
        rintro e w1 ⟨rfl, hb1⟩
        replace B0 := B0.step hb1
        replace B1 := B1.step hb1
        replace hb0 := hb0.trans (hb1.mono hb0.size)
        have c0 := B0.cell
        have l0 := B0.lt
        have c1 := B1.cell
        have l1 := B1.lt
        go_wp2_with fail
        go_ret2
        exact ⟨_, rfl, .nil _ _ _, hb0⟩)
    | true =>
      rw [if_pos ⟨hw, rfl⟩] at hE
      rw [hE, if_pos rfl] at hL
      subst hw
      rw [hE]
      have HL := Lib.hid hL
      have hm1 : 0 ≤ wv * t.kilo := Int.mul_nonneg h7 h5
      have hm2 : wv * t.kilo ≤ 1073742 * 100000 := Int.mul_le_mul h8 h6 h5 (by omega)
      clear hL hE hwv
      have hid1 : 1 ≤ id ∧ id ≤ 1000000 := by simpa [within] using hid
      obtain ⟨hid2, hid3⟩ := hid1
      clear hid
      go_enter Try.func18, Try.ntmps18
      go_wp2_with fail
      refine (hwt _).mono ?_
      rintro e w1 ⟨rfl, hb1⟩
      replace B0 := B0.step hb1
      replace B1 := B1.step hb1
      replace hb0 := hb0.trans (hb1.mono hb0.size)
      have c0 := B0.cell
      have l0 := B0.lt
      have c1 := B1.cell
      have l1 := B1.lt
      have own8 : (w1.alloc (.cells #[.int .i64 2, .int .i64 id, .int .i64 1, .int .i64 t.empty, .int .i64 t.empty] 49)).ownsRow w.heap.size 49 5 (.slice (some ⟨w1.heap.size, 0, none⟩) 1 1) 1 (encI ⟨2, id, 1, t.empty, t.empty⟩) :=
        ⟨rfl, .inr ⟨w1.heap.size, 1, #[.int .i64 2, .int .i64 id, .int .i64 1, .int .i64 t.empty, .int .i64 t.empty], rfl, by have := hb0.size; omega, Blk.new w1 49 #[.int .i64 2, .int .i64 id, .int .i64 1, .int .i64 t.empty, .int .i64 t.empty], Nat.le_refl _, by simp [maxLen], rfl, rfl⟩⟩
      have hb8 : Below w.heap.size w (w1.alloc (.cells #[.int .i64 2, .int .i64 id, .int .i64 1, .int .i64 t.empty, .int .i64 t.empty] 49)) := hb0.alloc hb0.size _
      have hbs := hb0.size
      by_cases hpos : wv > 0
      · have hL := HL.out
        rw [if_pos hpos] at hL
        replace HL := Lib.hid hL
        clear hL
        obtain ⟨i, hi, hz, hsi, hby⟩ : ∃ i, Try.prog.info? 49 = some i ∧ i.zero = some (.agg #[.int .i64 0, .int .i64 0, .int .i64 0, .int .i64 0, .int .i64 0]) ∧ i.size = 5 ∧ i.bytes = 40 := info_of (by kernel_rfl)
        have hone1 : ∀ x : Itm, ∀ u ∈ encI x, u.oneCell' = true := by
          intro x u hu
          simp only [encI, List.mem_cons, List.not_mem_nil, or_false] at hu
          rcases hu with rfl | rfl | rfl | rfl | rfl <;> rfl
        have B2 := Blk.new (w1.alloc (.cells #[.int .i64 2, .int .i64 id, .int .i64 1, .int .i64 t.empty, .int .i64 t.empty] 49)) 49 #[.int .i64 3, .int .i64 id, .int .i64 wv, .int .i64 t.kilo, .int .i64 (wv * t.kilo)]
        have hw8 : (w1.alloc (.cells #[.int .i64 2, .int .i64 id, .int .i64 1, .int .i64 t.empty, .int .i64 t.empty] 49)).heap.size = w1.heap.size + 1 := by simp
        rw [hw8] at B2
        go_wp2_with (at_builtin; refine wpList_append_any _ rfl _ _ _ rfl w.heap.size 49 i _ 5 40 Try.underlying38 hi hz hsi hby rfl (by omega) _ 1 _ rfl (own8.alloc (.cells #[.int .i64 3, .int .i64 id, .int .i64 wv, .int .i64 t.kilo, .int .i64 (wv * t.kilo)] 49)) _ 1 (encI ⟨3, id, wv, t.kilo, wv * t.kilo⟩) rfl (Src.of_blk (cs := #[.int .i64 3, .int .i64 id, .int .i64 wv, .int .i64 t.kilo, .int .i64 (wv * t.kilo)]) B2 1) rfl (hone1 _) (by simp [maxLen]) (by omega) (by simp only [World.size_alloc]; omega) ?_)
        intro v6 w6 own6 hg6 hat6
        go_wp2_with fail
        go_ret2
        refine ⟨_, rfl, ?_, ?_⟩
        · rw [HL.out]
          exact RowIn.of_own (l := [_, _]) encI_len (by simpa using own6)
        · exact Below.grown (hb8.alloc hb8.size _) hg6 (by simp; omega) (fun j hj => by simp [Value.ownBlock] at hj; omega)
      · have hL := HL.out
        rw [if_neg hpos] at hL
        replace HL := Lib.hid hL
        clear hL
        go_wp2_with fail
        go_ret2
        refine ⟨_, rfl, ?_, hb8⟩
        rw [HL.out]
        exact RowIn.of_own (l := [_]) encI_len own8
  · rw [if_neg (fun h => hw h.1)] at hE
    rw [hE, if_neg (by omega)] at hL
    have hw' : (we != 0) = true := by simpa using hw
    rw [hE, hL]
    clear hL hE hwv hw
    go_enter Try.func18, Try.ntmps18
    go_wp2_with fail
    refine (hwt _).mono ?_
    rintro e w1 ⟨rfl, hb1⟩
    replace hb0 := hb0.trans (hb1.mono hb0.size)
    go_wp2_with fail
    go_ret2
    exact ⟨_, rfl, .nil _ _ _, hb0⟩

end Go.Proofs.Ytaidcdcikjbjjaa
