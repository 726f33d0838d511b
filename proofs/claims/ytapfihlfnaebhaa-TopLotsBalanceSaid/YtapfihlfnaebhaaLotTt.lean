/- The walk of TopLotsBalance. -/
import Derived.Test.YtapfihlfnaebhaaLotTb
import Derived.Test.YtapfihlfnaebhaaLotK
import Derived.Test.YtapfihlfnaebhaaBalC
namespace Go.Proofs.Ytapfihlfnaebhaa
set_option linter.unusedVariables false
set_option linter.unusedSimpArgs false
open Go.RowKit

theorem own_ge' {W : World} {base n C : Nat} {e : TypeId} {v : Value} {xs : List Value} (h : W.ownsRow base e C v n xs) : ∀ j, Value.ownBlock v = some j → base ≤ j := fun j hj => by
  rcases ownsRow_open h with ⟨rfl, _⟩ | ⟨gg, cc, uu, rfl, hgg, _⟩
  · simp [Value.ownBlock] at hj
  · simp [Value.ownBlock] at hj; omega
theorem RowIn.of_blk {α : Type} {w : World} {g : Nat} {e : TypeId} {C : Nat} {cs : Array Value} {f : α → List Value} {l : List α} (hf : ∀ a, (f a).length = C) (h : Blk w g e cs) (hc : cs.toList = l.flatMap f) (hm : l.length ≤ maxLen) :
    RowIn w (.slice (some ⟨g, 0, none⟩) l.length l.length) C f l := by
  have hl : (l.flatMap f).length = l.length * C := rowOf_length hf l
  have hs : cs.size = l.length * C := by rw [← hl, ← hc]; simp
  refine RowIn.of_own (base := 0) (e := e) hf ⟨hl, .inr ⟨g, l.length, cs, rfl, Nat.zero_le _, h, Nat.le_refl _, hm, hs, ?_⟩⟩
  rw [hc, List.take_of_length_le (by omega)]
def t1L : List Lv := [⟨1, 0, 5, 7, .slice none 0 0, []⟩]
theorem t1_s : lstS t1L 0 = ⟨5, 7⟩ := by kernel_rfl
theorem t1_e : lstE t1L 0 = 0 := by kernel_rfl
set_option maxRecDepth 100000 in
set_option maxHeartbeats 8000000 in
theorem awakeT_any (w : World) : Calls Try.prog 15 #[] w fun e w' => e = .returned (.bool true) ∧ Below w.heap.size w w' := by
  have BL := Blk.new w 49 #[.int .i64 1, .int .i64 0, .int .i64 5, .int .i64 7, .slice none 0 0]
  have LI : LotsIn (w.alloc (.cells #[.int .i64 1, .int .i64 0, .int .i64 5, .int .i64 7, .slice none 0 0] 49)) (.slice (some ⟨w.heap.size, 0, none⟩) 1 1) t1L := by
    refine ⟨RowIn.of_blk (l := t1L) encV_len BL rfl (by decide), fun x hx => ?_, fun x hx => ?_, fun x hx => ?_⟩
    · obtain rfl := List.mem_singleton.1 hx
      exact .nil _ _ _
    · obtain rfl := List.mem_singleton.1 hx
      rfl
    · obtain rfl := List.mem_singleton.1 hx
      intro p hp
      cases hp
  have hs := lstock_any LI 0
  rw [t1_s, t1_e] at hs
  have hb : Below w.heap.size w (w.alloc (.cells #[.int .i64 1, .int .i64 0, .int .i64 5, .int .i64 7, .slice none 0 0] 49)) := by repeat (first | (with_reducible exact Below.refl _ _) | (with_reducible assumption) | (with_reducible refine Below.drew ?_) | ((with_reducible refine Below.alloc ?_ ?_ _); rotate_left; (first | (with_reducible exact Nat.zero_le _) | (with_reducible exact Nat.le_refl _) | omega | (dsimp only; omega) | (simp only [World.size_alloc, World.size_setCell, World.size_drew]; omega))) | ((with_reducible refine Below.setCell ?_ ?_ _); rotate_left; (first | (with_reducible exact Nat.zero_le _) | (with_reducible exact Nat.le_refl _) | omega | (dsimp only; omega) | (simp only [World.size_alloc, World.size_setCell, World.size_drew]; omega))))
  clear BL LI
  go_enter Try.func15, Try.ntmps15
  go_wp2_with fail
  refine hs.mono ?_
  rintro e w1 ⟨rfl, hb1⟩
  replace hb := hb.trans (hb1.mono hb.size)
  go_wp2_with fail
  go_ret
  exact ⟨by first | rfl | simp, hb.alloc hb.size _⟩

theorem TL_len {L : List Lv} (h : ∀ x ∈ L, x.parts.length ≤ 8) : ∀ k, k ≤ L.length → (TL (L.take k)).length ≤ 9 * k
  | 0, _ => Nat.le_refl _
  | k + 1, hk => by
    have ih := TL_len h k (by omega)
    have hx : L[k]? = some (L.getD k lv0) := getD_of (by omega)
    have := h _ (List.mem_of_getElem? hx)
    rw [TL_take hx, List.length_append]
    unfold movX
    rw [List.length_append, List.length_map]
    simp only [List.length_cons, List.length_nil]
    omega
theorem oneR (l : List Tr) : ∀ u ∈ rowOf encR l, Value.oneCell' u = true := fun u hu => by
  obtain ⟨a, _, ha⟩ := List.mem_flatMap.1 hu
  simp [encR] at ha
  rcases ha with rfl | rfl | rfl | rfl <;> rfl
theorem mk3 (w : World) : (Instr.makeSlice 29 (.int .i64 3) (.int .i64 3)).run Try.prog w = .ok (.slice (some ⟨w.heap.size, 0, none⟩) 3 3) (w.alloc (.cells #[.int .i64 0, .int .i64 0, .int .i64 0, .int .i64 0, .int .i64 0, .int .i64 0] 32)) := by kernel_rfl
def TbRel (w1 : World) (L : List Lv) (v i : Value) (wr : World) : Prop := ∃ k : Nat, k ≤ L.length ∧ i = .int .i64 k ∧ Below w1.heap.size w1 wr ∧ (∀ x ∈ L.take k, x.mat = 0) ∧ wr.ownsRow w1.heap.size 39 4 v (TL (L.take k)).length (rowOf encR (TL (L.take k)))
def TpRel2 (w1 : World) (L : List Lv) (k : Nat) (ps : List Pt) (px : Nat) (cs : Array Value) (v i : Value) (wr : World) : Prop := ∃ m : Nat, m ≤ ps.length ∧ i = .int .i64 m ∧ Below w1.heap.size w1 wr ∧ Blk wr px 49 cs ∧ (∀ b, Value.ownBlock v = some b → b ≠ px) ∧ wr.ownsRow w1.heap.size 39 4 v (TL (L.take k) ++ (ps.take m).map trP).length (rowOf encR (TL (L.take k) ++ (ps.take m).map trP))
set_option maxRecDepth 100000 in
set_option maxHeartbeats 8000000 in
theorem law_top {w : World} {v : Value} {L : List Lv} (h : LotsIn w v L) : Calls Try.prog 4 #[v] w fun e w' => e = .returned (.bool true) ∧ Below w.heap.size w w' := by
  have ha := awakeT_any
  have h1 := rlcheck_any h
  obtain ⟨oa, cap, hv, p1, p2, _, hp5⟩ := h.row.at_
  subst hv
  unfold maxLen at p2
  by_cases hn : L.length > 20
  · have hn' : (L.length : Int) > 20 := by omega
    clear hn h1
    go_enter Try.func4, Try.ntmps4
    go_wp2_with fail
    refine (ha _).mono ?_
    rintro e w2 ⟨rfl, hb2⟩
    go_wp2_with fail
    go_ret
    exact ⟨by first | rfl | simp, hb2⟩
  have hn' : ¬ (L.length : Int) > 20 := by omega
  by_cases h0 : chkL L = 0
  case neg =>
    have h0' : (chkL L != 0) = true := by simpa using h0
    clear h0 hn
    generalize chkL L = E at *
    go_enter Try.func4, Try.ntmps4
    go_wp2_with fail
    refine h1.mono ?_
    rintro e w1 ⟨rfl, hb1⟩
    go_wp2_with fail
    refine (ha _).mono ?_
    rintro e w2 ⟨rfl, hb2⟩
    go_wp2_with fail
    go_ret
    exact ⟨by first | rfl | simp, hb1.trans (hb2.mono hb1.size)⟩
  rw [h0] at h1
  have H0 := Lib.hid h0
  have HP := Lib.hid hp5
  have HH := Lib.hid h
  have hP := partsOk (chkL_ok h0).2.1 (chkL_ok h0).1
  have HPO := Lib.hid hP
  have HTL := Lib.hid (fun k hk => TL_len hP.eight k hk)
  obtain ⟨tj, ji, jz, jsi, jby⟩ := info_of (P := Try.prog) (t := 39) (z := .agg #[.int .i64 0, .int .i64 0, .int .i64 0, .int .i64 0]) (size := 4) (bytes := 32) (by kernel_rfl)
  clear h0 hp5 h hP
  go_enter Try.func4, Try.ntmps4
  go_wp2_with fail
  refine h1.mono ?_
  rintro e w1 ⟨rfl, hb1⟩
  have hz1 := hb1.size
  clear h1
  go_wp2_with fail
  go_loopw [3, 23] (fun v i wr => TbRel w1 L v i wr) (fun _ i _ => (L.length - intOf i).toNat)
  case atStart => exact ⟨0, Nat.zero_le _, rfl, Below.refl _ _, by simp, ⟨by simp [rowOf, TL], .inl ⟨rfl, rfl⟩⟩⟩
  case round =>
    obtain ⟨k, hk, rfl, hbr, hmat, own⟩ := hrel
    have hsz := hbr.size
    have hball := hb1.trans (hbr.mono hz1)
    by_cases hkl : k < L.length
    · have hki : (k : Int) < L.length := by omega
      have hk0 : (0 : Int) ≤ k := by omega
      have hx := getD_of (d := lv0) hkl
      have hxm := List.mem_of_getElem? hx
      obtain ⟨ob, oo, rfl, hoz, hoc⟩ := HP.out (by rintro rfl; simp at hkl)
      have ec := hoc k _ hx
      have q : ∀ j, wr.cell? ⟨ob, j, none⟩ = w.cell? ⟨ob, j, none⟩ := fun j => hball.cell (p := ⟨ob, j, none⟩) hoz
      have hpr := HH.out.part _ hxm
      have hlt := HTL.out k hk
      have hts : TL (L.take (k + 1)) = TL (L.take k) ++ movX (L.getD k lv0) := TL_take hx
      have hms : (L.getD k lv0).mat = 0 → ∀ x ∈ L.take (k + 1), x.mat = 0 := fun h x hxx => by
        rw [List.take_add_one, hx] at hxx
        rcases List.mem_append.1 hxx with h1 | h1
        · exact hmat x h1
        · simp at h1; rw [h1]; exact h
      have h8 := HPO.out.eight _ hxm
      have HTS := Lib.hid hts
      have HMS := Lib.hid hms
      clear hx hxm hoc hts hms hmat
      generalize L.getD k lv0 = x at *
      have e0 : World.cell? wr ⟨ob, oo + k * 5, none⟩ = some (.int .i64 x.id) := (q _).trans (ec 0 (by omega))
      have e1 : World.cell? wr ⟨ob, oo + k * 5 + 1, none⟩ = some (.int .i64 x.mat) := (q _).trans (ec 1 (by omega))
      have e2 : World.cell? wr ⟨ob, oo + k * 5 + 2, none⟩ = some (.int .i64 x.lo) := (q _).trans (ec 2 (by omega))
      have e3 : World.cell? wr ⟨ob, oo + k * 5 + 3, none⟩ = some (.int .i64 x.hi) := (q _).trans (ec 3 (by omega))
      have e4 : World.cell? wr ⟨ob, oo + k * 5 + 4, none⟩ = some (x.pv) := (q _).trans (ec 4 (by omega))
      clear ec q
      obtain ⟨xi, xm, xl, xh, xv, ps⟩ := x
      dsimp only at *
      obtain ⟨pa, pc, hpv, r1, r2, _, hr5⟩ := hpr.at_
      subst hpv
      unfold maxLen at r2
      have HR := Lib.hid hr5
      clear hpr hr5
      have hbx : Below wr.heap.size wr (wr.alloc (.cells #[.int .i64 xi, .int .i64 xm, .int .i64 xl, .int .i64 xh, .slice pa ps.length pc] 49)) := by repeat (first | (with_reducible exact Below.refl _ _) | (with_reducible assumption) | (with_reducible refine Below.drew ?_) | ((with_reducible refine Below.alloc ?_ ?_ _); rotate_left; (first | (with_reducible exact Nat.zero_le _) | (with_reducible exact Nat.le_refl _) | omega | (dsimp only; omega) | (simp only [World.size_alloc, World.size_setCell, World.size_drew]; omega))) | ((with_reducible refine Below.setCell ?_ ?_ _); rotate_left; (first | (with_reducible exact Nat.zero_le _) | (with_reducible exact Nat.le_refl _) | omega | (dsimp only; omega) | (simp only [World.size_alloc, World.size_setCell, World.size_drew]; omega))))
      have hbz := hbr.trans (hbx.mono hsz)
      have BX := Blk.new wr 49 #[.int .i64 xi, .int .i64 xm, .int .i64 xl, .int .i64 xh, .slice pa ps.length pc]
      have hol : ∀ b, Value.ownBlock u3 = some b → b ≠ wr.heap.size := fun b hb => by
        rcases ownsRow_open own with ⟨rfl, _⟩ | ⟨g, c, cur, rfl, _, hB, _⟩
        · simp [Value.ownBlock] at hb
        · simp [Value.ownBlock] at hb; have := hB.lt; omega
      have own1 := ownsRow_step own hbx
      have HB := Lib.hid hbz
      have HO := Lib.hid own1
      have HOL := Lib.hid hol
      clear own own1 hbx hol
      by_cases hm : xm = 0
      · have hm' : (xm != 0) = false := by simp [hm]
        have HMM := Lib.hid (HMS.out hm)
        clear hm
        go_wp2_with fail
        clear e0 e1 e2 e3 e4
        go_loopw [3, 34] (fun v i wq => TpRel2 w1 L k ps wr.heap.size #[.int .i64 xi, .int .i64 xm, .int .i64 xl, .int .i64 xh, .slice pa ps.length pc] v i wq) (fun _ i _ => (ps.length - intOf i).toNat)
        case atStart => exact ⟨0, Nat.zero_le _, rfl, HB.out, BX, HOL.out, by simpa using HO.out⟩
        case round =>
          clear BX
          obtain ⟨m, hm, rfl, hbr2, BX, hol, own⟩ := hrel
          have hsz2 := hbr2.size
          have hball2 := hb1.trans (hbr2.mono hz1)
          by_cases hml : m < ps.length
          · have hmi : (m : Int) < ps.length := by omega
            have hm0 : (0 : Int) ≤ m := by omega
            have hx := getD_of (d := pt0) hml
            obtain ⟨pb, po, rfl, hpz, hpc⟩ := HR.out (by rintro rfl; simp at hml)
            have ec := hpc m _ hx
            have q : ∀ j, wr.cell? ⟨pb, j, none⟩ = w.cell? ⟨pb, j, none⟩ := fun j => hball2.cell (p := ⟨pb, j, none⟩) hpz
            have hst : (ps.take (m + 1)).map trP = (ps.take m).map trP ++ [trP (ps.getD m pt0)] := by rw [List.take_add_one, hx]; simp
            have HST := Lib.hid hst
            clear hx hpc hst
            generalize ps.getD m pt0 = p at *
            have e0 : World.cell? wr ⟨pb, po + m * 3, none⟩ = some (.int .i64 p.lot) := (q _).trans (ec 0 (by omega))
            have e1 : World.cell? wr ⟨pb, po + m * 3 + 1, none⟩ = some (.int .i64 p.lo) := (q _).trans (ec 1 (by omega))
            have e2 : World.cell? wr ⟨pb, po + m * 3 + 2, none⟩ = some (.int .i64 p.hi) := (q _).trans (ec 2 (by omega))
            clear ec q
            obtain ⟨y, pl, ph⟩ := p
            dsimp only at *
            have hlm : (TL (L.take k) ++ (ps.take m).map trP).length ≤ 9 * k + m := by
              rw [List.length_append, List.length_map, List.length_take]; omega
            have hbp : Below wr.heap.size wr ((wr.alloc (.cells #[.int .i64 y, .int .i64 pl, .int .i64 ph] 51)).alloc (.cells #[.int .i64 1, .int .i64 2, .int .i64 pl, .int .i64 ph] 39)) := by repeat (first | (with_reducible exact Below.refl _ _) | (with_reducible assumption) | (with_reducible refine Below.drew ?_) | ((with_reducible refine Below.alloc ?_ ?_ _); rotate_left; (first | (with_reducible exact Nat.zero_le _) | (with_reducible exact Nat.le_refl _) | omega | (dsimp only; omega) | (simp only [World.size_alloc, World.size_setCell, World.size_drew]; omega))) | ((with_reducible refine Below.setCell ?_ ?_ _); rotate_left; (first | (with_reducible exact Nat.zero_le _) | (with_reducible exact Nat.le_refl _) | omega | (dsimp only; omega) | (simp only [World.size_alloc, World.size_setCell, World.size_drew]; omega))))
            have BK := Blk.new (wr.alloc (.cells #[.int .i64 y, .int .i64 pl, .int .i64 ph] 51)) 39 #[.int .i64 1, .int .i64 2, .int .i64 pl, .int .i64 ph]
            rw [World.size_alloc] at BK
            have own2 := ownsRow_step own hbp
            have BX2 := BX.step hbp
            have hbz2 := hbr2.trans (hbp.mono hsz2)
            have lX := BX.lt
            generalize hTT : TL (L.take k) ++ (ps.take m).map trP = TT at *
            have HTT := Lib.hid hTT
            clear own BX hbp hbr2 hTT
            go_wp2_with (at_builtin; go_loud (refine wpList_append_any _ rfl _ _ _ rfl w1.heap.size 39 tj _ 4 32 Try.underlying30 ji jz jsi jby rfl (by omega) _ TT.length _ rfl own2 _ 1 (encR ⟨1, 2, ⟨pl, ph⟩⟩) rfl (Src.of_blk BK 1) rfl (fun u hu => oneR [⟨1, 2, ⟨pl, ph⟩⟩] u (by simpa [rowOf] using hu)) (by simp only [maxLen]; omega) (by omega) hbz2.size ?_); intro v6 w6 own6 hg6 hat6)
            have hb7 := Below.grown hbz2 hg6 hbz2.size (own_ge' own2)
            have BX7 := BX2.grown hg6 (fun e => hol _ e.symm rfl)
            have hol7 : ∀ b, Value.ownBlock v6 = some b → b ≠ _ := fun b hb => by
              rcases hat6 with h | h
              · exact hol b (h.symm.trans hb)
              · have h9 := Option.some.inj (h.symm.trans hb)
                simp only [World.size_alloc] at h9
                intro he
                rw [he] at h9
                exact absurd lX (by omega)
            have own6' : w6.ownsRow w1.heap.size 39 4 v6 (TT ++ [trP ⟨y, pl, ph⟩]).length (rowOf encR (TT ++ [trP ⟨y, pl, ph⟩])) := by
              rw [rowOf_append, List.length_append]
              simpa [rowOf, trP] using own6
            clear own6 own2 hg6 hat6
            go_roundw
            case rel => exact ⟨m + 1, hml, by simp, hb7, BX7, hol7, by rw [HST.out, ← List.append_assoc, HTT.out]; exact own6'⟩
            case measure => simp [intOf] <;> omega
          · obtain rfl : m = ps.length := by omega
            rw [List.take_length] at own
            have hlm : (TL (L.take k) ++ ps.map trP).length ≤ 9 * k + 8 := by
              rw [List.length_append, List.length_map]; omega
            have cX := BX.cell
            have lX := BX.lt
            have hbp : Below wr.heap.size wr (wr.alloc (.cells #[.int .i64 0, .int .i64 1, .int .i64 xl, .int .i64 xh] 39)) := by repeat (first | (with_reducible exact Below.refl _ _) | (with_reducible assumption) | (with_reducible refine Below.drew ?_) | ((with_reducible refine Below.alloc ?_ ?_ _); rotate_left; (first | (with_reducible exact Nat.zero_le _) | (with_reducible exact Nat.le_refl _) | omega | (dsimp only; omega) | (simp only [World.size_alloc, World.size_setCell, World.size_drew]; omega))) | ((with_reducible refine Below.setCell ?_ ?_ _); rotate_left; (first | (with_reducible exact Nat.zero_le _) | (with_reducible exact Nat.le_refl _) | omega | (dsimp only; omega) | (simp only [World.size_alloc, World.size_setCell, World.size_drew]; omega))))
            have BK := Blk.new wr 39 #[.int .i64 0, .int .i64 1, .int .i64 xl, .int .i64 xh]
            have own2 := ownsRow_step own hbp
            have hbz2 := hbr2.trans (hbp.mono hsz2)
            have hmv : TL (L.take (k + 1)) = (TL (L.take k) ++ ps.map trP) ++ [⟨0, 1, ⟨xl, xh⟩⟩] := by rw [HTS.out]; unfold movX; rw [List.append_assoc]; rfl
            have HMV := Lib.hid hmv
            generalize TL (L.take k) ++ ps.map trP = TT at *
            clear own BX hbp hbr2 hmv
            go_wp2_with (at_builtin; go_loud (refine wpList_append_any _ rfl _ _ _ rfl w1.heap.size 39 tj _ 4 32 Try.underlying30 ji jz jsi jby rfl (by omega) _ TT.length _ rfl own2 _ 1 (encR ⟨0, 1, ⟨xl, xh⟩⟩) rfl (Src.of_blk BK 1) rfl (fun u hu => oneR [⟨0, 1, ⟨xl, xh⟩⟩] u (by simpa [rowOf] using hu)) (by simp only [maxLen]; omega) (by omega) hbz2.size ?_); intro v6 w6 own6 hg6 hat6)
            have hb7 := Below.grown hbz2 hg6 hbz2.size (own_ge' own2)
            have own6' : w6.ownsRow w1.heap.size 39 4 v6 (TT ++ [(⟨0, 1, ⟨xl, xh⟩⟩ : Tr)]).length (rowOf encR (TT ++ [(⟨0, 1, ⟨xl, xh⟩⟩ : Tr)])) := by
              rw [rowOf_append, List.length_append]
              simpa [rowOf] using own6
            clear own6 own2 hg6 hat6
            go_roundw
            case rel => exact ⟨k + 1, hkl, by simp, hb7, HMM.out, by rw [HMV.out]; exact own6'⟩
            case measure => simp [intOf] <;> omega
      · have hm' : (xm != 0) = true := by simpa using hm
        clear hm
        go_wp2_with fail
        refine (ha _).mono ?_
        rintro e w2 ⟨rfl, hb2⟩
        have hbq := hb1.trans (HB.out.mono hz1)
        go_wp2_with fail
        go_ret
        exact ⟨by first | rfl | simp, hbq.trans (hb2.mono hbq.size)⟩
    · obtain rfl : k = L.length := by omega
      rw [List.take_length] at own hmat
      have hlt := HTL.out L.length (Nat.le_refl _)
      rw [List.take_length] at hlt
      have RT := RowIn.of_own encR_len own
      obtain ⟨ta, tc, hte, t1, t2, _, _⟩ := RT.at_
      subst hte
      unfold maxLen at t2
      have HB := Lib.hid hball
      by_cases hc : (TL L).length > 60
      · have hc' : ((TL L).length : Int) > 60 := by omega
        clear hc own RT
        go_wp2_with fail
        refine (ha _).mono ?_
        rintro e w2 ⟨rfl, hb2⟩
        go_wp2_with fail
        go_ret
        exact ⟨by first | rfl | simp, HB.out.trans (hb2.mono HB.out.size)⟩
      have hc' : ¬ ((TL L).length : Int) > 60 := by omega
      obtain ⟨b1, b2, b3⟩ := lots_balance H0.out hmat
      have hck := TL_chk H0.out (show (TL L).length ≤ 60 by omega)
      have hE : lstE L 0 = 2 ∨ (lstE L 0 = 0 ∧ lstS L 0 = stS L 0 L.length) := by
        unfold lstS lstE
        rw [if_neg (by simpa using H0.out), if_neg (by omega)]
        by_cases hh : (stS L 0 L.length).hi > 70368744177664
        · rw [if_pos hh]; exact .inl rfl
        · rw [if_neg hh]; exact .inr ⟨rfl, by rw [if_pos rfl]⟩
      have hF : stkE 3 o3 (TL L) = 2 ∨ (stkE 3 o3 (TL L) = 0 ∧ stkV 3 o3 (TL L) = stkL o3 (TL L)) := by
        cases hv : allV (stkL o3 (TL L)) with
        | true => exact .inr (stkE_ok hck hv)
        | false => exact .inl (stkE_bad hck hv).1
      have hg1 : (stkL o3 (TL L))[1]? = some (nodeS (TL L) 1 sp0) := stkL_get o3 (TL L) (by decide)
      have hl3 : (stkL o3 (TL L)).length = 3 := by rw [stkL_len]; rfl
      have hs := lstock_any (HH.out.step hball) 0
      have hst := fun w vo ho hl => stock_any (w := w) (vo := vo) (vl := .slice ta (TL L).length tc) 3 (o := o3) (l := TL L) ho hl
      obtain ⟨ti, ii, iz, isi, iby⟩ := info_of (P := Try.prog) (t := 32) (z := .agg #[.int .i64 0, .int .i64 0]) (size := 2) (bytes := 16) (by kernel_rfl)
      have HRT := Lib.hid RT
      have HST := Lib.hid hst
      generalize stkV 3 o3 (TL L) = SV at *
      generalize hLS : stkL o3 (TL L) = LS at *
      clear hLS hck hc own RT hst hball hbr hmat
      generalize lstS L 0 = S at *
      generalize stS L 0 L.length = ST at *
      generalize nodeS (TL L) 1 sp0 = N at *
      generalize lstE L 0 = E at *
      generalize stkE 3 o3 (TL L) = F at *
      obtain ⟨slo, shi⟩ := S
      obtain ⟨nlo, nhi⟩ := N
      dsimp only at *
      go_wp2_with fail
      refine hs.mono ?_
      rintro e w2 ⟨rfl, hb2⟩
      have hbs : Below w2.heap.size w2 (w2.alloc (.cells #[.int .i64 slo, .int .i64 shi] 32)) := by repeat (first | (with_reducible exact Below.refl _ _) | (with_reducible assumption) | (with_reducible refine Below.drew ?_) | ((with_reducible refine Below.alloc ?_ ?_ _); rotate_left; (first | (with_reducible exact Nat.zero_le _) | (with_reducible exact Nat.le_refl _) | omega | (dsimp only; omega) | (simp only [World.size_alloc, World.size_setCell, World.size_drew]; omega))) | ((with_reducible refine Below.setCell ?_ ?_ _); rotate_left; (first | (with_reducible exact Nat.zero_le _) | (with_reducible exact Nat.le_refl _) | omega | (dsimp only; omega) | (simp only [World.size_alloc, World.size_setCell, World.size_drew]; omega))))
      have BS := Blk.new w2 32 #[.int .i64 slo, .int .i64 shi]
      have hb3 := HB.out.trans (hb2.mono HB.out.size)
      have hb4 := hb3.trans (hbs.mono hb3.size)
      have RT2 := (HRT.out.step hb2).step hbs
      clear hs hb2 hbs hb3
      have hmk := mk3 (w2.alloc (.cells #[.int .i64 slo, .int .i64 shi] 32))
      rw [World.size_alloc] at hmk
      have hbm : Below (w2.alloc (.cells #[.int .i64 slo, .int .i64 shi] 32)).heap.size (w2.alloc (.cells #[.int .i64 slo, .int .i64 shi] 32)) ((w2.alloc (.cells #[.int .i64 slo, .int .i64 shi] 32)).alloc (.cells #[.int .i64 0, .int .i64 0, .int .i64 0, .int .i64 0, .int .i64 0, .int .i64 0] 32)) := by repeat (first | (with_reducible exact Below.refl _ _) | (with_reducible assumption) | (with_reducible refine Below.drew ?_) | ((with_reducible refine Below.alloc ?_ ?_ _); rotate_left; (first | (with_reducible exact Nat.zero_le _) | (with_reducible exact Nat.le_refl _) | omega | (dsimp only; omega) | (simp only [World.size_alloc, World.size_setCell, World.size_drew]; omega))) | ((with_reducible refine Below.setCell ?_ ?_ _); rotate_left; (first | (with_reducible exact Nat.zero_le _) | (with_reducible exact Nat.le_refl _) | omega | (dsimp only; omega) | (simp only [World.size_alloc, World.size_setCell, World.size_drew]; omega))))
      have RO : RowIn ((w2.alloc (.cells #[.int .i64 slo, .int .i64 shi] 32)).alloc (.cells #[.int .i64 0, .int .i64 0, .int .i64 0, .int .i64 0, .int .i64 0, .int .i64 0] 32)) (.slice (some ⟨w2.heap.size + 1, 0, none⟩) 3 3) 2 encP o3 := by
        have := Blk.new (w2.alloc (.cells #[.int .i64 slo, .int .i64 shi] 32)) 32 #[.int .i64 0, .int .i64 0, .int .i64 0, .int .i64 0, .int .i64 0, .int .i64 0]
        rw [World.size_alloc] at this
        exact RowIn.of_blk (l := o3) encP_len this (by rfl) (by decide)
      have hcall := HST.out _ _ RO (RT2.step hbm)
      have hb5 := hb4.trans (hbm.mono hb4.size)
      have BS2 := BS.step hbm
      clear RO RT2 hbm hb4 BS
      go_wp2_with fail
      refine hcall.mono ?_
      rintro e w4 ⟨vv, rfl, RV, hb6⟩
      have hb7 := hb5.trans (hb6.mono hb5.size)
      have BS4 := BS2.step hb6
      clear hcall hb5 hb6 BS2
      rcases hE with rfl | ⟨rfl, hE⟩
      · rcases hF with rfl | ⟨rfl, hF⟩
        all_goals (
          go_wp2_with fail
          refine (ha _).mono ?_
          rintro e w5 ⟨rfl, hb8⟩
          go_wp2_with fail
          go_ret
          exact ⟨by first | rfl | simp, hb7.trans (hb8.mono hb7.size)⟩)
      · rcases hF with rfl | ⟨rfl, hF⟩
        · go_wp2_with fail
          refine (ha _).mono ?_
          rintro e w5 ⟨rfl, hb8⟩
          go_wp2_with fail
          go_ret
          exact ⟨by first | rfl | simp, hb7.trans (hb8.mono hb7.size)⟩
        · subst hF
          obtain ⟨va, vc, hve, v1, v2, _, hv5⟩ := RV.at_
          rw [hl3] at hve v1
          subst hve
          unfold maxLen at v2
          obtain ⟨rb, ro, rfl, hrz, hrc⟩ := hv5 (by rintro rfl; simp at hl3)
          have r0 := hrc 1 _ hg1 0 (by omega)
          have r1 := hrc 1 _ hg1 1 (by omega)
          have q1 : shi = nhi := by rw [← b1, ← hE]
          have q2 : slo ≥ nlo := by rw [← hE] at b2; exact b2
          have q3 : slo ≥ 0 := by rw [← hE] at b3; exact b3
          have q1' : (shi == nhi) = true := by simp [q1]
          have q2' : decide (nlo ≤ slo) = true := decide_eq_true q2
          have q3' : decide (0 ≤ slo) = true := decide_eq_true q3
          clear q1 hE b1 b2 b3 hg1 hl3 hrc hv5 RV
          have cS : ∀ y : BW w4, ∀ j, y.w.cell? ⟨w2.heap.size, j, none⟩ = #[.int .i64 slo, .int .i64 shi][j]? := fun y j => (BS4.bw y).cell j
          have cR0 : ∀ y : BW w4, y.w.cell? ⟨rb, ro + 2, none⟩ = some (.int .i64 nlo) := fun y => (y.cell hrz).trans r0
          have cR1 : ∀ y : BW w4, y.w.cell? ⟨rb, ro + 2 + 1, none⟩ = some (.int .i64 nhi) := fun y => (y.cell hrz).trans r1
          clear r0 r1 BS4
          go_wp2_with fail
          refine wp_region_calm (by kernel_rfl) (by kernel_rfl) ?_
          repeat (go_big_quiet_step (fail))
          go_big_quiet_want; go_big_quiet_op; go_big_quiet_call (exact calls_bw ha _)
          repeat (go_big_quiet_step (fail))
          first | refine wpQuiet_nil ?_ | skip
          intro w5 hb8
          go_wp2_with fail
          go_ret
          exact ⟨by first | rfl | simp, hb7.trans (hb8.mono hb7.size)⟩

end Go.Proofs.Ytapfihlfnaebhaa
