/- Contract: Uses of the reference. -/
import Derived.Test.YtpafcdigcpbbeaaLotX
namespace Go.Proofs.Ytpafcdigcpbbeaa
set_option linter.unusedVariables false
set_option linter.unusedSimpArgs false
open Go.RowKit

/-- What is appended for lot k behind the first m answers. -/
def ruN (L : List Lv) (c k m : Nat) : List Int := selK (useF L c) L k ++ (if (decide (c < m) && rB L k c) = true then [(L.getD k lv0).id] else [])
theorem ruN_zero (L : List Lv) (c k : Nat) : ruN L c k 0 = selK (useF L c) L k := by unfold ruN; simp
theorem ruN_all {L : List Lv} {c k : Nat} (hc : c < L.length) (hk : k ≠ c) : ruN L c k L.length = selK (useF L c) L (k + 1) := by
  rw [selK_succ]
  unfold ruN useF
  rw [decide_eq_true hc, decide_eq_false hk]
  rfl
theorem ruN_other {L : List Lv} {c k m : Nat} (h : m ≠ c) : ruN L c k (m + 1) = ruN L c k m := by
  unfold ruN
  have : decide (c < m + 1) = decide (c < m) := by rw [decide_eq_decide]; omega
  rw [this]
theorem ruN_no {L : List Lv} {c k m : Nat} (h : rB L k c = false) : ruN L c k (m + 1) = ruN L c k m := by
  unfold ruN; rw [h]; simp
theorem ruN_yes {L : List Lv} {c k : Nat} (h : rB L k c = true) : ruN L c k (c + 1) = ruN L c k c ++ [(L.getD k lv0).id] := by
  unfold ruN; rw [h]; simp
theorem ruN_len (L : List Lv) (c k m : Nat) : (ruN L c k m).length ≤ k + 1 := by
  have := selK_len (useF L c) L k
  unfold ruN
  rw [List.length_append]
  split <;> simp <;> omega
theorem own_lt {w : World} {base : Nat} {e : TypeId} {size n : Nat} {v : Value} {xs : List Value} (h : w.ownsRow base e size v n xs) : ∀ j, v.ownBlock = some j → j < w.heap.size := by
  intro j hj
  rcases ownsRow_open h with ⟨rfl, _⟩ | ⟨g, cap, cur, rfl, _, hB, _⟩
  · cases hj
  · simp only [Value.ownBlock, Option.some.injEq] at hj
    subst hj
    exact hB.lt
def RuI (w2 : World) (L : List Lv) (c k g px : Nat) (cs : Array Value) (o m : Value) (wr : World) : Prop :=
  ∃ j : Nat, j ≤ L.length ∧ m = .int .i64 j ∧ Below w2.heap.size w2 wr ∧ wr.ownsRow w2.heap.size 3 1 o (ruN L c k j).length (rowOf encI1 (ruN L c k j)) ∧ Blk wr px 33 cs ∧ Blk wr g 4 (bools (rowB L.length (rB L k))) ∧ ∀ b, Value.ownBlock o = some b → b ≠ px ∧ b ≠ g
set_option maxRecDepth 100000 in
set_option maxHeartbeats 8000000 in
theorem ruses_any {w : World} {v : Value} {L : List Lv} (h : LotsIn w v L) (id : Int) : Calls Try.prog 22 #[v, .int .i64 id] w (origOut w (lefE L id) (useV L id)) := by
  have hS : useV L id = if lefE L id = 0 then useL L (ixL L id) else [] := rfl
  have hE : lefE L id = if chkL L ≠ 0 then chkL L else if kn L L.length id = none then 7 else 0 := rfl
  have hck := rlcheck_any h
  have hkw := fun w h => rknown_any (w := w) (v := v) (L := L) h id
  generalize lefE L id = OE at *
  generalize useV L id = OS at *
  by_cases h0 : chkL L = 0
  case neg =>
    have h0' : (chkL L != 0) = true := by simpa using h0
    rw [if_pos h0] at hE
    rw [hE, if_neg h0] at hS
    rw [hE, hS]
    clear hE hS hkw h0
    generalize chkL L = E at *
    go_enter Try.func22, Try.ntmps22
    go_wp2_with fail
    refine hck.mono ?_
    rintro e w1 ⟨rfl, hb1⟩
    go_wp2_with fail
    refine bodyPost_ret (v := .tuple #[.slice none 0 0, .int .i64 E]) (by simp only [results, Try.results22]; go_simp; first | done | rfl) rfl ?_
    exact ⟨_, rfl, .nil _ _ _, hb1⟩
  rw [if_neg (by simpa using h0)] at hE
  have hus := fun w h c hc z hz => rused_any (w := w) (v := v) (L := L) h h0 (c := c) hc (id := z) hz
  rw [h0] at hck
  have HFA := Lib.hid h
  cases hk : kn L L.length id with
  | none =>
    rw [if_pos hk] at hE
    rw [hE, if_neg (by decide)] at hS
    rw [hE, hS]
    rw [hk] at hkw
    clear hE hS hk hus h0 h
    go_enter Try.func22, Try.ntmps22
    go_wp2_with fail
    refine hck.mono ?_
    rintro e w1 ⟨rfl, hb1⟩
    go_wp2_with fail
    refine (hkw _ (HFA.out.step hb1)).mono ?_
    rintro e w2 ⟨rfl, hb2⟩
    go_wp2_with fail
    refine bodyPost_ret (v := .tuple #[.slice none 0 0, .int .i64 7]) (by simp only [results, Try.results22]; go_simp; first | done | rfl) rfl ?_
    exact ⟨_, rfl, .nil _ _ _, hb1.trans (hb2.mono hb1.size)⟩
  | some i =>
    obtain ⟨j, hj, rfl, hjid⟩ := kn_at hk
    have hjx : ixL L id = j := by unfold ixL; rw [hk]; simp
    rw [if_neg (by rw [hk]; simp)] at hE
    rw [hE, if_pos rfl, hjx] at hS
    rw [hE]
    rw [hk] at hkw
    obtain ⟨ok1, _, ok3, _⟩ := chkL_ok h0
    have HS := Lib.hid hS
    have HUS := Lib.hid hus
    have HJ := Lib.hid hjid
    obtain ⟨oa, cap, hv, p1, p2, _, hp5⟩ := h.row.at_
    subst hv
    unfold maxLen at p2
    have HP := Lib.hid hp5
    clear hp5 hk hjid hE hS hjx hus h0 h
    obtain ⟨tj, ji, jz, jsi, jby⟩ := info_of (P := Try.prog) (t := 3) (z := .int .i64 0) (size := 1) (bytes := 8) (by kernel_rfl)
    go_enter Try.func22, Try.ntmps22
    go_wp2_with fail
    refine hck.mono ?_
    rintro e w1 ⟨rfl, hb1⟩
    go_wp2_with fail
    refine (hkw _ (HFA.out.step hb1)).mono ?_
    rintro e w2 ⟨rfl, hb2⟩
    have hb12 := hb1.trans (hb2.mono hb1.size)
    have hz2 := hb12.size
    have HND := Lib.hid ok3
    clear hkw hck hb1 hb2 ok3
    go_wp2_with fail
    go_loopw [7, 23] (fun o m wr => RoRel w2 L (useF L j) o m wr) (fun _ m _ => (L.length - intOf m).toNat)
    case atStart => exact ⟨0, Nat.zero_le _, rfl, Below.refl _ _, ⟨by simp [rowOf, selK], .inl ⟨rfl, rfl⟩⟩⟩
    case round =>
      obtain ⟨k, hk, rfl, hbr, own⟩ := hrel
      have hsz := hbr.size
      have hball := hb12.trans (hbr.mono hz2)
      by_cases hkl : k < L.length
      · have hki : (k : Int) < L.length := by omega
        have hk0 : (0 : Int) ≤ k := by omega
        have hx := getD_of (d := lv0) hkl
        have hxm := List.mem_of_getElem? hx
        obtain ⟨ob, oo, rfl, hoz, hoc⟩ := HP.out (by rintro rfl; simp at hkl)
        have ec := hoc k _ hx
        have q : ∀ j, wr.cell? ⟨ob, j, none⟩ = w.cell? ⟨ob, j, none⟩ := fun j => hball.cell (p := ⟨ob, j, none⟩) hoz
        have hpr := HFA.out.part _ hxm
        have hsk := selK_succ (useF L j) L k
        have hsl := selK_len (useF L j) L k
        have hid : (L.getD k lv0).id = id ↔ k = j := ⟨fun e => nodup_at HND.out k j hkl hj (by rw [e, HJ.out]), fun e => by rw [e, HJ.out]⟩
        have husw := fun w h => HUS.out w h k hkl _ rfl
        have HRY := Lib.hid (fun h => ruN_yes (L := L) (c := j) (k := k) h)
        clear hx hxm
        have HOC := Lib.hid hoc
        clear hoc
        generalize L.getD k lv0 = x at *
        have e0 : World.cell? wr ⟨ob, oo + k * 5, none⟩ = some (.int .i64 x.id) := (q _).trans (ec 0 (by omega))
        have e1 : World.cell? wr ⟨ob, oo + k * 5 + 1, none⟩ = some (.int .i64 x.mat) := (q _).trans (ec 1 (by omega))
        have e2 : World.cell? wr ⟨ob, oo + k * 5 + 2, none⟩ = some (.int .i64 x.lo) := (q _).trans (ec 2 (by omega))
        have e3 : World.cell? wr ⟨ob, oo + k * 5 + 3, none⟩ = some (.int .i64 x.hi) := (q _).trans (ec 3 (by omega))
        have e4 : World.cell? wr ⟨ob, oo + k * 5 + 4, none⟩ = some (x.pv) := (q _).trans (ec 4 (by omega))
        clear ec q
        obtain ⟨xi, xm, xl, xh, xv, ps⟩ := x
        dsimp only at *
        obtain ⟨pa, pc, hpv, r1, r2, _, _⟩ := hpr.at_
        subst hpv
        unfold maxLen at r2
        clear hpr
        have hbx : Below wr.heap.size wr (wr.alloc (.cells #[.int .i64 xi, .int .i64 xm, .int .i64 xl, .int .i64 xh, .slice pa ps.length pc] 33)) := by repeat (first | (with_reducible exact Below.refl _ _) | (with_reducible assumption) | (with_reducible refine Below.drew ?_) | ((with_reducible refine Below.alloc ?_ ?_ _); rotate_left; (first | (with_reducible exact Nat.zero_le _) | (with_reducible exact Nat.le_refl _) | omega | (dsimp only; omega) | (simp only [World.size_alloc, World.size_setCell, World.size_drew]; omega))) | ((with_reducible refine Below.setCell ?_ ?_ _); rotate_left; (first | (with_reducible exact Nat.zero_le _) | (with_reducible exact Nat.le_refl _) | omega | (dsimp only; omega) | (simp only [World.size_alloc, World.size_setCell, World.size_drew]; omega))))
        have BX := Blk.new wr 33 #[.int .i64 xi, .int .i64 xm, .int .i64 xl, .int .i64 xh, .slice pa ps.length pc]
        have hbz := hbr.trans (hbx.mono hsz)
        have HLT := Lib.hid (own_lt own)
        have own1 := ownsRow_step own hbx
        clear own
        by_cases hkj : xi = id
        · obtain rfl := hid.1 hkj
          have hx : (xi == id) = true := by simpa using hkj
          have hu : useF L k k = false := by unfold useF; simp
          rw [hu, if_neg (by simp), List.append_nil] at hsk
          have HSK := Lib.hid hsk
          clear hkj hid hsk hu husw
          go_wp2_with fail
          go_roundw
          case rel => exact ⟨k + 1, hkl, by simp, hbz, by rw [HSK.out]; exact own1⟩
          case measure => simp [intOf]; omega
        · have hx : (xi == id) = false := by simpa using hkj
          have hne : k ≠ j := fun e => hkj (hid.2 e)
          have HSK := Lib.hid (ruN_all (L := L) hj hne)
          have hcall := husw _ (HFA.out.step (hb12.trans (hbz.mono hz2)))
          have HZ := Lib.hid hbz
          have HO := Lib.hid own1
          clear hkj hid hsk husw hbz own1
          go_wp2_with fail
          refine hcall.mono ?_
          rintro e w4 ⟨g, rfl, BG, hb4, hgn⟩
          have HAP := Lib.hid (fun b (hb : Value.ownBlock u7 = some b) => (show b ≠ wr.heap.size ∧ b ≠ g from by have := HLT.out b hb; simp only [World.size_alloc] at hgn; omega))
          clear hcall e0 e1 e2 e3 e4
          have hb5 := HZ.out.trans (hb4.mono HZ.out.size)
          have BX5 := BX.step hb4
          have own5 := ownsRow_step HO.out hb4
          go_wp2_with fail
          go_loopw [7, 36] (fun o m wq => RuI w2 L j k g wr.heap.size #[.int .i64 xi, .int .i64 xm, .int .i64 xl, .int .i64 xh, .slice pa ps.length pc] o m wq) (fun _ m _ => (L.length - intOf m).toNat)
          case atStart => exact ⟨0, Nat.zero_le _, rfl, hb5, by rw [ruN_zero]; exact own5, BX5, BG, HAP.out⟩
          case round =>
            clear BX5 own5 BG hb5
            obtain ⟨m, hm, rfl, hbr2, own2, BX2, BG2, hap⟩ := hrel
            have HAP2 := Lib.hid hap
            clear hap
            have hsz2 := hbr2.size
            have hball2 := hb12.trans (hbr2.mono hz2)
            by_cases hml : m < L.length
            · have hmi : (m : Int) < L.length := by omega
              have hm0 : (0 : Int) ≤ m := by omega
              have d0 : World.cell? wr ⟨ob, oo + m * 5, none⟩ = some (.int .i64 (L.getD m lv0).id) := (hball2.cell (p := ⟨ob, _, none⟩) hoz).trans (HOC.out m _ (getD_of (d := lv0) hml) 0 (by omega))
              have g1 := BG2.getb (rowB_get (rB L k) hml)
              have l1 := BG2.lt
              have c0 := BX2.cell 0
              have l2 := BX2.lt
              have hidm : (L.getD m lv0).id = id ↔ m = j := ⟨fun e => nodup_at HND.out m j hml hj (by rw [e, HJ.out]), fun e => by rw [e, HJ.out]⟩
              have hln := ruN_len L j k m
              generalize (L.getD m lv0).id = z at *
              have HB2 := Lib.hid hbr2
              have HO2 := Lib.hid own2
              have HX2 := Lib.hid BX2
              have HG2 := Lib.hid BG2
              generalize hRB : rB L k m = RB at *
              clear BX2 BG2
              cases RB with
              | false =>
                have HN := Lib.hid (show ruN L j k (m + 1) = ruN L j k m from by
                  by_cases e : m = j
                  · subst e; exact ruN_no hRB
                  · exact ruN_other e)
                clear hRB hidm hbr2 own2
                go_wp2_with fail
                go_roundw
                case rel => exact ⟨m + 1, hml, by simp, HB2.out, by rw [HN.out]; exact HO2.out, HX2.out, HG2.out, HAP2.out⟩
                case measure => simp [intOf]; omega
              | true =>
                by_cases hz : z = id
                · obtain rfl := hidm.1 hz
                  have hz' : (z == id) = true := by simpa using hz
                  have HN := Lib.hid (HRY.out hRB)
                  have hb7 : Below wr.heap.size wr (wr.alloc (.cells #[.int .i64 xi] 3)) := by repeat (first | (with_reducible exact Below.refl _ _) | (with_reducible assumption) | (with_reducible refine Below.drew ?_) | ((with_reducible refine Below.alloc ?_ ?_ _); rotate_left; (first | (with_reducible exact Nat.zero_le _) | (with_reducible exact Nat.le_refl _) | omega | (dsimp only; omega) | (simp only [World.size_alloc, World.size_setCell, World.size_drew]; omega))) | ((with_reducible refine Below.setCell ?_ ?_ _); rotate_left; (first | (with_reducible exact Nat.zero_le _) | (with_reducible exact Nat.le_refl _) | omega | (dsimp only; omega) | (simp only [World.size_alloc, World.size_setCell, World.size_drew]; omega))))
                  have BK := Blk.new wr 3 #[.int .i64 xi]
                  have own7 := ownsRow_step own2 hb7
                  have hbz7 := hbr2.trans (hb7.mono hsz2)
                  have HX7 := Lib.hid (HX2.out.step hb7)
                  have HG7 := Lib.hid (HG2.out.step hb7)
                  clear hz hidm hRB own2 hbr2
                  go_wp2_with (at_builtin; go_loud (refine wpList_append_any _ rfl _ _ _ rfl w2.heap.size 3 tj _ 1 8 Try.underlying40 ji jz jsi jby rfl (by omega) _ (ruN L m k m).length _ rfl own7 _ 1 (encI1 xi) rfl (Src.of_blk BK 1) rfl (fun u hu => oneI1 [xi] u (by simpa [rowOf] using hu)) (by simp only [maxLen]; omega) (by omega) hbz7.size ?_); intro v6 w6 own6 hg6 hat6)
                  have hb8 := Below.grown hbz7 hg6 hbz7.size (own_ge' own7)
                  have own8 : w6.ownsRow w2.heap.size 3 1 v6 (ruN L m k m ++ [xi]).length (rowOf encI1 (ruN L m k m ++ [xi])) := by
                    rw [rowOf_append, List.length_append]
                    simpa [rowOf] using own6
                  have BX8 := HX7.out.grown hg6 (fun e => (HAP2.out _ e.symm).1 rfl)
                  have BG8 := HG7.out.grown hg6 (fun e => (HAP2.out _ e.symm).2 rfl)
                  have hap8 : ∀ b, Value.ownBlock v6 = some b → b ≠ _ ∧ b ≠ g := fun b hb => by
                    rcases hat6 with h | h
                    · exact HAP2.out b (h.symm.trans hb)
                    · have h9 := Option.some.inj (h.symm.trans hb)
                      simp only [World.size_alloc] at h9
                      exact ⟨by omega, by omega⟩
                  clear own6 own7 hg6 hat6
                  go_roundw
                  case rel => exact ⟨m + 1, hml, by simp, hb8, by rw [HN.out]; exact own8, BX8, BG8, hap8⟩
                  case measure => simp [intOf]; omega
                · have hz' : (z == id) = false := by simpa using hz
                  have HN := Lib.hid (ruN_other (L := L) (c := j) (k := k) (fun e => hz (hidm.2 e)))
                  clear hz hidm hRB hbr2 own2
                  go_wp2_with fail
                  go_roundw
                  case rel => exact ⟨m + 1, hml, by simp, HB2.out, by rw [HN.out]; exact HO2.out, HX2.out, HG2.out, HAP2.out⟩
                  case measure => simp [intOf]; omega
            · obtain rfl : m = L.length := by omega
              rw [HSK.out] at own2
              go_wp2_with fail
              go_roundw
              case rel => exact ⟨k + 1, hkl, by simp, hbr2, own2⟩
              case measure => simp [intOf]; omega
      · obtain rfl : k = L.length := by omega
        go_wp2_with fail
        refine bodyPost_ret (v := .tuple #[u7, .int .i64 0]) (by simp only [results, Try.results22]; go_simp; first | done | rfl) rfl ?_
        refine ⟨_, rfl, ?_, hball⟩
        rw [HS.out]
        exact RowIn.of_own encI1_len own

end Go.Proofs.Ytpafcdigcpbbeaa
