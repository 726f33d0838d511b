/- Contract: Origin of the program. -/
import Derived.Test.YtpafcdigcpbbeaaLotT
import Derived.Test.YtpafcdigcpbbeaaAppend
import Derived.Test.YtpafcdigcpbbeaaLotQ
import Derived.Deep.OwnRows
import Derived.Laws.EntriesVeiled
namespace Go.Proofs.Ytpafcdigcpbbeaa
set_option linter.unusedVariables false
set_option linter.unusedSimpArgs false
open Go.RowKit

theorem own_ge' {W : World} {base n C : Nat} {e : TypeId} {v : Value} {xs : List Value} (h : W.ownsRow base e C v n xs) : ∀ j, Value.ownBlock v = some j → base ≤ j := fun j hj => by
  rcases ownsRow_open h with ⟨rfl, _⟩ | ⟨gg, cc, uu, rfl, hgg, _⟩
  · simp [Value.ownBlock] at hj
  · simp [Value.ownBlock] at hj; omega
theorem encI1_len1 (x : Int) : (encI1 x).length = 1 := rfl
theorem oneI1 (l : List Int) : ∀ u ∈ rowOf encI1 l, Value.oneCell' u = true := fun u hu => by
  obtain ⟨a, _, ha⟩ := List.mem_flatMap.1 hu
  simp [encI1] at ha
  subst ha
  rfl
theorem VSt.start {w0 w1 : World} {v : Value} {L : List Lv} {gL b n s : Nat} (hb : Below w0.heap.size w0 w1) (BL : Blk w1 gL 22 #[v]) (hm : MapIs w1 Try.prog 3 eInt b n (kn L L.length) s) :
    VSt w0 ((((w1.alloc (.cells #[.map (some b)] 54)).alloc (.cells (bools (rowB L.length (fun _ => false))) 4)).alloc (.cells #[.slice (some ⟨w1.heap.size + 1, 0, none⟩) L.length L.length] 65)).alloc (.cells #[.func (.func 35) #[] #[.pointer (some ⟨w1.heap.size + 1 + 1, 0, none⟩), .pointer (some ⟨gL, 0, none⟩), .pointer (some ⟨w1.heap.size + 1 + 1 + 1, 0, none⟩), .pointer (some ⟨w1.heap.size, 0, none⟩)]] 66))
      v L (w1.heap.size + 1 + 1) (w1.heap.size + 1) gL (w1.heap.size + 1 + 1 + 1) w1.heap.size b (fun _ => false) := by
  have hz := hb.size
  have h1 := BL.lt
  have h2 := hm.lt
  have hbb : Below w1.heap.size w1 ((((w1.alloc (.cells #[.map (some b)] 54)).alloc (.cells (bools (rowB L.length (fun _ => false))) 4)).alloc (.cells #[.slice (some ⟨w1.heap.size + 1, 0, none⟩) L.length L.length] 65)).alloc (.cells #[.func (.func 35) #[] #[.pointer (some ⟨w1.heap.size + 1 + 1, 0, none⟩), .pointer (some ⟨gL, 0, none⟩), .pointer (some ⟨w1.heap.size + 1 + 1 + 1, 0, none⟩), .pointer (some ⟨w1.heap.size, 0, none⟩)]] 66)) := by
    refine Below.alloc (Below.alloc (Below.alloc (Below.alloc (Below.refl _ _) ?_ _) ?_ _) ?_ _) ?_ _ <;> (try simp only [World.size_alloc]) <;> omega
  refine ⟨hb.trans (hbb.mono hz), by omega, by omega, ?_, ?_, BL.step hbb, ?_, ?_, n, s, hm.step hbb⟩
  · have := (Blk.new ((w1.alloc (.cells #[.map (some b)] 54)).alloc (.cells (bools (rowB L.length (fun _ => false))) 4)) 65 #[.slice (some ⟨w1.heap.size + 1, 0, none⟩) L.length L.length]).alloc (.cells #[.func (.func 35) #[] #[.pointer (some ⟨w1.heap.size + 1 + 1, 0, none⟩), .pointer (some ⟨gL, 0, none⟩), .pointer (some ⟨w1.heap.size + 1 + 1 + 1, 0, none⟩), .pointer (some ⟨w1.heap.size, 0, none⟩)]] 66)
    simpa only [World.size_alloc] using this
  · have := ((Blk.new (w1.alloc (.cells #[.map (some b)] 54)) 4 (bools (rowB L.length (fun _ => false)))).alloc (.cells #[.slice (some ⟨w1.heap.size + 1, 0, none⟩) L.length L.length] 65)).alloc (.cells #[.func (.func 35) #[] #[.pointer (some ⟨w1.heap.size + 1 + 1, 0, none⟩), .pointer (some ⟨gL, 0, none⟩), .pointer (some ⟨w1.heap.size + 1 + 1 + 1, 0, none⟩), .pointer (some ⟨w1.heap.size, 0, none⟩)]] 66)
    simpa only [World.size_alloc] using this
  · have := Blk.new (((w1.alloc (.cells #[.map (some b)] 54)).alloc (.cells (bools (rowB L.length (fun _ => false))) 4)).alloc (.cells #[.slice (some ⟨w1.heap.size + 1, 0, none⟩) L.length L.length] 65)) 66 #[.func (.func 35) #[] #[.pointer (some ⟨w1.heap.size + 1 + 1, 0, none⟩), .pointer (some ⟨gL, 0, none⟩), .pointer (some ⟨w1.heap.size + 1 + 1 + 1, 0, none⟩), .pointer (some ⟨w1.heap.size, 0, none⟩)]]
    simpa only [World.size_alloc] using this
  · exact (((Blk.new w1 54 #[.map (some b)]).alloc _).alloc _).alloc _
def origOut (w : World) (E : Int) (l : List Int) (e : Ending) (w' : World) : Prop := ∃ vo, e = .returned (.tuple #[vo, .int .i64 E]) ∧ RowIn w' vo 1 encI1 l ∧ Below w.heap.size w w'
def OrRel (w3 : World) (L : List Lv) (F : Nat → Bool) (o m : Value) (wr : World) : Prop :=
  ∃ k : Nat, k ≤ L.length ∧ m = .int .i64 k ∧ Below w3.heap.size w3 wr ∧ wr.ownsRow w3.heap.size 3 1 o (selK F L k).length (rowOf encI1 (selK F L k))
set_option maxRecDepth 100000 in
set_option maxHeartbeats 8000000 in
theorem origin_any {w : World} {v : Value} {L : List Lv} (h : LotsIn w v L) (id : Int) (hid : (Lit.int .i64 id).wf = true) : Calls Try.prog 19 #[v, .int .i64 id] w (origOut w (lefE L id) (orgV L id)) := by
  have hS : orgV L id = if lefE L id = 0 then orgL L (ixL L id) else [] := rfl
  have hE : lefE L id = if chkL L ≠ 0 then chkL L else if kn L L.length id = none then 7 else 0 := rfl
  obtain ⟨oa, cap, hv, p1, p2, _, hp5⟩ := h.row.at_
  subst hv
  unfold maxLen at p2
  have HP := Lib.hid hp5
  clear hp5
  have hb : Below w.heap.size w (w.alloc (.cells #[.slice oa L.length cap] 22)) := by repeat (first | (with_reducible exact Below.refl _ _) | (with_reducible assumption) | (with_reducible refine Below.drew ?_) | ((with_reducible refine Below.alloc ?_ ?_ _); rotate_left; (first | (with_reducible exact Nat.zero_le _) | (with_reducible exact Nat.le_refl _) | omega | (dsimp only; omega) | (simp only [World.size_alloc, World.size_setCell, World.size_drew]; omega))) | ((with_reducible refine Below.setCell ?_ ?_ _); rotate_left; (first | (with_reducible exact Nat.zero_le _) | (with_reducible exact Nat.le_refl _) | omega | (dsimp only; omega) | (simp only [World.size_alloc, World.size_setCell, World.size_drew]; omega))))
  have BR := Blk.new w 22 #[.slice oa L.length cap]
  have h1 := h.step (w' := w.alloc (.cells #[.slice oa L.length cap] 22)) (by repeat (first | (with_reducible exact Below.refl _ _) | (with_reducible assumption) | (with_reducible refine Below.drew ?_) | ((with_reducible refine Below.alloc ?_ ?_ _); rotate_left; (first | (with_reducible exact Nat.zero_le _) | (with_reducible exact Nat.le_refl _) | omega | (dsimp only; omega) | (simp only [World.size_alloc, World.size_setCell, World.size_drew]; omega))) | ((with_reducible refine Below.setCell ?_ ?_ _); rotate_left; (first | (with_reducible exact Nat.zero_le _) | (with_reducible exact Nat.le_refl _) | omega | (dsimp only; omega) | (simp only [World.size_alloc, World.size_setCell, World.size_drew]; omega)))))
  have hfb := fun w h h0 => find_bad (w := w) (v := .slice oa L.length cap) (L := L) h id h0
  have hfa := fun w h h0 => find_any (w := w) (v := .slice oa L.length cap) (L := L) h id hid h0
  generalize lefE L id = OE at *
  generalize orgV L id = OS at *
  by_cases h0 : chkL L = 0
  case neg =>
    have h0' : (chkL L != 0) = true := by simpa using h0
    have hf := hfb _ h1 h0
    rw [if_pos h0] at hE
    rw [hE, if_neg h0] at hS
    rw [hE, hS]
    clear hE hS hfb hfa h0
    generalize chkL L = E at *
    go_enter Try.func19, Try.ntmps19
    go_wp2_with fail
    refine hf.mono ?_
    rintro e w1 ⟨rfl, hb1⟩
    replace hb := hb.trans (hb1.mono hb.size)
    go_wp2_with fail
    refine bodyPost_ret (v := .tuple #[.slice none 0 0, .int .i64 E]) (by simp only [results, Try.results19]; go_simp; first | done | rfl) rfl ?_
    exact ⟨_, rfl, .nil _ _ _, hb.alloc hb.size _⟩
  have hf := hfa _ h1 h0
  rw [if_neg (by simpa using h0)] at hE
  obtain ⟨ok1, ok2, ok3, ok4⟩ := chkL_ok h0
  have HOK := Lib.hid h0
  have HFA := Lib.hid h
  clear hfb hfa h0 ok2 ok3 ok4
  cases hk : kn L L.length id with
  | none =>
    rw [if_pos hk] at hE
    rw [hE, if_neg (by decide)] at hS
    rw [hE, hS]
    unfold findOut findE at hf
    rw [hk] at hf
    clear hE hS hk
    go_enter Try.func19, Try.ntmps19
    go_wp2_with fail
    refine hf.mono ?_
    rintro e w1 ⟨b, n, s, rfl, hm, hb1⟩
    replace hb := hb.trans (hb1.mono hb.size)
    go_wp2_with fail
    refine bodyPost_ret (v := .tuple #[.slice none 0 0, .int .i64 7]) (by simp only [results, Try.results19]; go_simp; first | done | rfl) rfl ?_
    exact ⟨_, rfl, .nil _ _ _, hb.alloc hb.size _⟩
  | some i =>
    obtain ⟨j, hj, rfl, hjid⟩ := kn_at hk
    have hjx : ixL L id = j := by unfold ixL; rw [hk]; simp
    rw [if_neg (by rw [hk]; simp)] at hE
    rw [hE, if_pos rfl, hjx] at hS
    rw [hE]
    unfold findOut findE at hf
    rw [hk] at hf
    dsimp only at hf
    have HS := Lib.hid hS
    clear hk hjid hE hS hjx
    have hji : (j : Int) < L.length := by omega
    have hj0 : (0 : Int) ≤ j := by omega
    obtain ⟨ti, ii, iz, isi, iby⟩ := info_of (P := Try.prog) (t := 4) (z := .bool false) (size := 1) (bytes := 1) (by kernel_rfl)
    obtain ⟨tj, ji, jz, jsi, jby⟩ := info_of (P := Try.prog) (t := 3) (z := .int .i64 0) (size := 1) (bytes := 8) (by kernel_rfl)
    clear h h1
    go_enter Try.func19, Try.ntmps19
    go_wp2_with fail
    refine hf.mono ?_
    rintro e w1 ⟨b, n, s, rfl, hm, hb1⟩
    have hb2 := hb.trans (hb1.mono hb.size)
    have BL := BR.step hb1
    have cL := BL.cell 0
    have lL := BL.lt
    clear hf hb1 BR hb
    go_wp2_with (at_make; go_loud (refine wpList_make_row _ rfl _ _ 65 rfl 4 ti (.bool false) Try.underlying65 ii iz isi (by rfl) .i64 .i64 L.length rfl rfl (by rw [iby]; omega) (by omega) ?_))
    rw [bools_made, rowB_zero]
    have hst := VSt.start hb2 BL hm
    have hvi := (visit_any HFA.out HOK.out _ _ _ _ _ _ (j + 1) j (Nat.lt_succ_self _) hj _ _ hst (fun _ _ h => by cases h))
    clear hst hm
    refine hvi.mono ?_
    rintro e w3 ⟨rfl, h3⟩
    clear hvi hb2 BL cL lL
    have g2 : w3.cell? ⟨w.heap.size, 0, none⟩ = some (.slice oa L.length cap) := h3.ls.cell 0
    have l2 := h3.ls.lt
    generalize hgV : w1.heap.size + 1 + 1 + 1 = gV at *
    generalize hgS : w1.heap.size + 1 + 1 = gS at *
    generalize hgb : w1.heap.size + 1 = gb at *
    generalize w1.heap.size = gK at *
    have HF := Lib.hid (fun k (hk : k < L.length) => (show orgF L j k = (rB L j k && decide ((L.getD k lv0).parts.length = 0)) from rfl))
    go_wp2_with fail
    have H3 := Lib.hid h3
    clear g2 l2 h3
    go_loopw [11, 33] (fun o m wr => OrRel w3 L (orgF L j) o m wr) (fun _ m _ => (L.length - intOf m).toNat)
    case atStart =>
      exact ⟨0, Nat.zero_le _, rfl, Below.refl _ _, ⟨by simp [rowOf, selK], .inl ⟨rfl, rfl⟩⟩⟩
    case round =>
      obtain ⟨k, hk, rfl, hbr, own⟩ := hrel
      have hst := H3.out.step hbr
      have hsz := hbr.size
      by_cases hkl : k < L.length
      · have hki : (k : Int) < L.length := by omega
        have hk0 : (0 : Int) ≤ k := by omega
        have hx := getD_of (d := lv0) hkl
        have hxm := List.mem_of_getElem? hx
        obtain ⟨ob, oo, rfl, hoz, hoc⟩ := HP.out (by rintro rfl; simp at hkl)
        have ec := hoc k _ hx
        have q : ∀ j, wr.cell? ⟨ob, j, none⟩ = w.cell? ⟨ob, j, none⟩ := fun j => hst.old.cell (p := ⟨ob, j, none⟩) hoz
        have hpr := HFA.out.part _ hxm
        have hfk := HF.out k hkl
        have hsk := selK_succ (orgF L j) L k
        have hsl := selK_len (orgF L j) L k
        rw [hfk] at hsk
        have g0 : wr.cell? ⟨gS, 0, none⟩ = some (.slice (some ⟨gb, 0, none⟩) L.length L.length) := hst.sl.cell 0
        have g1 : wr.cell? ⟨gb, k, none⟩ = some (.bool (rB L j k)) := hst.row.getb (by rw [rowB_get _ hkl, Bool.false_or])
        have l0 := hst.sl.lt
        have l1 := hst.row.lt
        clear hx hxm hoc hfk
        generalize L.getD k lv0 = x at *
        generalize rB L j k = RB at *
        have e0 : World.cell? wr ⟨ob, oo + k * 5, none⟩ = some (.int .i64 x.id) := (q _).trans (ec 0 (by omega))
        have e1 : World.cell? wr ⟨ob, oo + k * 5 + 1, none⟩ = some (.int .i64 x.mat) := (q _).trans (ec 1 (by omega))
        have e2 : World.cell? wr ⟨ob, oo + k * 5 + 2, none⟩ = some (.int .i64 x.lo) := (q _).trans (ec 2 (by omega))
        have e3 : World.cell? wr ⟨ob, oo + k * 5 + 3, none⟩ = some (.int .i64 x.hi) := (q _).trans (ec 3 (by omega))
        have e4 : World.cell? wr ⟨ob, oo + k * 5 + 4, none⟩ = some (x.pv) := (q _).trans (ec 4 (by omega))
        clear ec q
        obtain ⟨xi, xm, xl, xh, xv, ps⟩ := x
        dsimp only at *
        obtain ⟨pa, pc, hpv, r1, r2, _, _⟩ := hpr.at_
        subst hpv
        unfold maxLen at r2
        clear hpr
        have hbx : Below wr.heap.size wr (wr.alloc (.cells #[.int .i64 xi, .int .i64 xm, .int .i64 xl, .int .i64 xh, .slice pa ps.length pc] 33)) := by repeat (first | (with_reducible exact Below.refl _ _) | (with_reducible assumption) | (with_reducible refine Below.drew ?_) | ((with_reducible refine Below.alloc ?_ ?_ _); rotate_left; (first | (with_reducible exact Nat.zero_le _) | (with_reducible exact Nat.le_refl _) | omega | (dsimp only; omega) | (simp only [World.size_alloc, World.size_setCell, World.size_drew]; omega))) | ((with_reducible refine Below.setCell ?_ ?_ _); rotate_left; (first | (with_reducible exact Nat.zero_le _) | (with_reducible exact Nat.le_refl _) | omega | (dsimp only; omega) | (simp only [World.size_alloc, World.size_setCell, World.size_drew]; omega))))
        have hbz := hbr.trans (hbx.mono hsz)
        have own1 := ownsRow_step own hbx
        clear hst own hgS hgb hgV
        cases RB with
        | false =>
          rw [Bool.false_and, if_neg (by simp), List.append_nil] at hsk
          have HSK := Lib.hid hsk
          clear hsk
          go_wp2_with fail
          go_roundw
          case rel => exact ⟨k + 1, hkl, by simp, hbz, by rw [HSK.out]; exact own1⟩
          case measure => simp [intOf]; omega
        | true =>
          by_cases hps : ps.length = 0
          · rw [if_pos (by simp [hps])] at hsk
            have HSK := Lib.hid hsk
            have hps' : ((ps.length : Int) == 0) = true := by simp [hps]
            have hb2 : Below (wr.alloc (.cells #[.int .i64 xi, .int .i64 xm, .int .i64 xl, .int .i64 xh, .slice pa ps.length pc] 33)).heap.size (wr.alloc (.cells #[.int .i64 xi, .int .i64 xm, .int .i64 xl, .int .i64 xh, .slice pa ps.length pc] 33)) ((wr.alloc (.cells #[.int .i64 xi, .int .i64 xm, .int .i64 xl, .int .i64 xh, .slice pa ps.length pc] 33)).alloc (.cells #[.int .i64 xi] 3)) := by repeat (first | (with_reducible exact Below.refl _ _) | (with_reducible assumption) | (with_reducible refine Below.drew ?_) | ((with_reducible refine Below.alloc ?_ ?_ _); rotate_left; (first | (with_reducible exact Nat.zero_le _) | (with_reducible exact Nat.le_refl _) | omega | (dsimp only; omega) | (simp only [World.size_alloc, World.size_setCell, World.size_drew]; omega))) | ((with_reducible refine Below.setCell ?_ ?_ _); rotate_left; (first | (with_reducible exact Nat.zero_le _) | (with_reducible exact Nat.le_refl _) | omega | (dsimp only; omega) | (simp only [World.size_alloc, World.size_setCell, World.size_drew]; omega))))
            have BK := Blk.new (wr.alloc (.cells #[.int .i64 xi, .int .i64 xm, .int .i64 xl, .int .i64 xh, .slice pa ps.length pc] 33)) 3 #[.int .i64 xi]
            simp only [World.size_alloc] at BK
            have own2 := ownsRow_step own1 hb2
            have hbz2 := hbz.trans (hb2.mono hbz.size)
            clear hsk hps own1
            go_wp2_with (at_builtin; go_loud (refine wpList_append_any _ rfl _ _ _ rfl w3.heap.size 3 tj _ 1 8 Try.underlying40 ji jz jsi jby rfl (by omega) _ (selK (orgF L j) L k).length _ rfl own2 _ 1 (encI1 xi) rfl (Src.of_blk BK 1) rfl (fun u hu => oneI1 [xi] u (by simpa [rowOf] using hu)) (by simp only [maxLen]; omega) (by omega) hbz2.size ?_); intro v6 w6 own6 hg6 hat6)
            have hb7 := Below.grown hbz2 hg6 hbz2.size (own_ge' own2)
            have own6' : w6.ownsRow w3.heap.size 3 1 v6 (selK (orgF L j) L k ++ [xi]).length (rowOf encI1 (selK (orgF L j) L k ++ [xi])) := by
              rw [rowOf_append, List.length_append]
              simpa [rowOf] using own6
            clear own6 own2 hg6 hat6
            go_roundw
            case rel => exact ⟨k + 1, hkl, by simp, hb7, by rw [HSK.out]; exact own6'⟩
            case measure => simp [intOf]; omega
          · rw [if_neg (by simp [hps]), List.append_nil] at hsk
            have HSK := Lib.hid hsk
            have hps' : ((ps.length : Int) == 0) = false := by simpa using hps
            clear hsk hps
            go_wp2_with fail
            go_roundw
            case rel => exact ⟨k + 1, hkl, by simp, hbz, by rw [HSK.out]; exact own1⟩
            case measure => simp [intOf]; omega
      · obtain rfl : k = L.length := by omega
        go_wp2_with fail
        refine bodyPost_ret (v := .tuple #[u11, .int .i64 0]) (by simp only [results, Try.results19]; go_simp; first | done | rfl) rfl ?_
        refine ⟨_, rfl, ?_, (H3.out.step hbr).old⟩
        rw [HS.out]
        exact RowIn.of_own encI1_len own

end Go.Proofs.Ytpafcdigcpbbeaa
