/- Contract: the closure visit of Origin. -/
import Derived.Test.YtpafcdigcpbbeaaLotS
import Derived.Test.YtpafcdigcpbbeaaBools
namespace Go.Proofs.Ytpafcdigcpbbeaa
set_option linter.unusedVariables false
set_option linter.unusedSimpArgs false
open Go.RowKit

/-- The world of a visit: the lots that came in, the boxes of the captured variables, and what was seen. -/
structure VSt (w0 w : World) (v : Value) (L : List Lv) (gS gb gL gV gK bm : Nat) (S : Nat → Bool) : Prop where
  old : Below w0.heap.size w0 w
  low : w0.heap.size ≤ gb
  ne : gb ≠ gS ∧ gb ≠ gL ∧ gb ≠ gV ∧ gb ≠ gK ∧ gb ≠ bm
  sl : Blk w gS 65 #[.slice (some ⟨gb, 0, none⟩) L.length L.length]
  row : Blk w gb 4 (bools (rowB L.length S))
  ls : Blk w gL 22 #[v]
  vis : Blk w gV 66 #[.func (.func 35) #[] #[.pointer (some ⟨gS, 0, none⟩), .pointer (some ⟨gL, 0, none⟩), .pointer (some ⟨gV, 0, none⟩), .pointer (some ⟨gK, 0, none⟩)]]
  kno : Blk w gK 54 #[.map (some bm)]
  map : ∃ n s, MapIs w Try.prog 3 eInt bm n (kn L L.length) s
section
variable {w0 w w' : World} {v : Value} {L : List Lv} {gS gb gL gV gK bm : Nat} {S : Nat → Bool}
theorem VSt.step (h : VSt w0 w v L gS gb gL gV gK bm S) (hb : Below w.heap.size w w') : VSt w0 w' v L gS gb gL gV gK bm S :=
  ⟨h.old.trans (hb.mono h.old.size), h.low, h.ne, h.sl.step hb, h.row.step hb, h.ls.step hb, h.vis.step hb, h.kno.step hb, by obtain ⟨n, s, hm⟩ := h.map; exact ⟨n, s, hm.step hb⟩⟩
theorem VSt.mark (h : VSt w0 w v L gS gb gL gV gK bm S) (i : Nat) : VSt w0 (w.setCell ⟨gb, i, none⟩ (.bool true)) v L gS gb gL gV gK bm (fun j => if j = i then true else S j) := by
  obtain ⟨h1, h2, ⟨n1, n2, n3, n4, n5⟩, h3, h4, h5, h6, h7, n, s, h8⟩ := h
  refine ⟨h1.setCell h2 _, h2, ⟨n1, n2, n3, n4, n5⟩, h3.far n1.symm _, ?_, h5.far n2.symm _, h6.far n3.symm _, h7.far n4.symm _, n, s, h8.far (fun e => n5 e.symm) _⟩
  rw [← rowB_set]
  exact h4.setb i true
theorem VSt.congr {T : Nat → Bool} (h : VSt w0 w v L gS gb gL gV gK bm S) (hT : ∀ i, i < L.length → S i = T i) : VSt w0 w v L gS gb gL gV gK bm T := by
  obtain ⟨h1, h2, h3, h4, h5, h6, h7, h8, h9⟩ := h
  rw [rowB_congr hT] at h5
  exact ⟨h1, h2, h3, h4, h5, h6, h7, h8, h9⟩
end
def ViRel (w0 : World) (v : Value) (L : List Lv) (gS gb gL gV gK bm : Nat) (S : Nat → Bool) (i : Nat) (m : Value) (wr : World) : Prop :=
  ∃ k : Nat, k ≤ (L.getD i lv0).parts.length ∧ m = .int .i64 k ∧ VSt w0 wr v L gS gb gL gV gK bm (seenV L i S k)
set_option maxRecDepth 100000 in
set_option maxHeartbeats 8000000 in
theorem visit_any {w0 : World} {v : Value} {L : List Lv} (h : LotsIn w0 v L) (h0 : chkL L = 0) (gS gb gL gV gK bm : Nat) : ∀ (f i : Nat), i < f → i < L.length → ∀ (w : World) (S : Nat → Bool), VSt w0 w v L gS gb gL gV gK bm S → Cl L (i + 1) S →
    Calls Try.prog 35 #[.int .i64 (i : Int), .pointer (some ⟨gS, 0, none⟩), .pointer (some ⟨gL, 0, none⟩), .pointer (some ⟨gV, 0, none⟩), .pointer (some ⟨gK, 0, none⟩)] w fun e w' => e = .returned (.tuple #[]) ∧ VSt w0 w' v L gS gb gL gV gK bm (fun j => S j || rB L i j) := by
  intro f
  induction f with
  | zero => intro i hif; exact absurd hif (Nat.not_lt_zero _)
  | succ f ih =>
    intro i hif hi w S hv hc
    have hii : (i : Int) < L.length := by omega
    have hi0 : (0 : Int) ≤ i := by omega
    have g0 : w.cell? ⟨gS, 0, none⟩ = some (.slice (some ⟨gb, 0, none⟩) L.length L.length) := hv.sl.cell 0
    have lS := hv.sl.lt
    have lb := hv.row.lt
    have fb := hv.row.free
    have g1 : w.cell? ⟨gb, i, none⟩ = some (.bool (S i)) := hv.row.getb (rowB_get S hi)
    cases hs : S i with
    | true =>
      rw [hs] at g1
      have hd := hv.congr (T := fun j => S j || rB L i j) fun j _ => (seen_done h0 hi hc hs j).symm
      have HD := Lib.hid hd
      clear hd hc hv hs ih
      go_enter Try.func35, Try.ntmps35
      go_wp2_with fail
      refine bodyPost_ret (v := .tuple #[]) (by simp only [results, Try.results35]; go_simp; first | done | rfl) rfl ?_
      exact ⟨rfl, HD.out⟩
    | false =>
      rw [hs] at g1
      obtain ⟨n1, n2, n3, n4, n5⟩ := hv.ne
      have m1 := n1.symm
      have m2 := n2.symm
      have lL := hv.ls.lt
      have g2 : w.cell? ⟨gL, 0, none⟩ = some v := hv.ls.cell 0
      obtain ⟨oa, cap, rfl, p1, p2, _, hp5⟩ := h.row.at_
      unfold maxLen at p2
      have hx := getD_of (d := lv0) hi
      have hxm := List.mem_of_getElem? hx
      obtain ⟨ob, oo, rfl, hoz, hoc⟩ := hp5 (by rintro rfl; simp at hi)
      have hob : ob ≠ gb := by have := hv.low; omega
      have ec := hoc i _ hx
      have hpr := h.part _ hxm
      have hpl := h.lot _ hxm
      have hpi := fun p hp => ixL_part h0 hi (p := p) hp
      have e4 : w.cell? ⟨ob, oo + i * 5 + 4, none⟩ = some (L.getD i lv0).pv := (hv.old.cell (p := ⟨ob, _, none⟩) hoz).trans (ec 4 (by omega))
      obtain ⟨pa, pc, hpv, r1, r2, _, hr5⟩ := hpr.at_
      unfold maxLen at r2
      rw [hpv] at e4
      have HV := Lib.hid hv
      have HC := Lib.hid hc
      have HP := Lib.hid hr5
      have HL := Lib.hid hpl
      have HX := Lib.hid hpi
      have HI := Lib.hid ih
      have hpk : (pk L i).length = (L.getD i lv0).parts.length := by simp [pk]
      clear hv hc hs hp5 hoc ec hpr hpl hx hxm hpv hr5 hpi ih
      generalize hM : (L.getD i lv0).parts.length = M at *
      go_enter Try.func35, Try.ntmps35
      go_wp2_with fail
      go_loopw [21] (fun m wr => ViRel w0 (.slice (some ⟨ob, oo, none⟩) L.length cap) L gS gb gL gV gK bm S i m wr) (fun m _ => (M - intOf m).toNat)
      case atStart => exact ⟨0, Nat.zero_le _, rfl, (HV.out.mark i).congr fun j _ => (seenV_zero j).symm⟩
      case round =>
        obtain ⟨k, hk, rfl, hst⟩ := hrel
        rw [hM] at hk
        clear g0 g1 g2 e4 lS lb fb lL
        by_cases hkl : k < M
        · have hki : (k : Int) < M := by omega
          have hk0 : (0 : Int) ≤ k := by omega
          have hx := getD_of (d := pt0) (show k < (L.getD i lv0).parts.length by omega)
          have hxm := List.mem_of_getElem? hx
          obtain ⟨pb, po, rfl, hpz, hpc⟩ := HP.out (by intro h; rw [h] at hM; simp at hM; omega)
          have ec := hpc k _ hx
          have q : ∀ j, wr.cell? ⟨pb, j, none⟩ = w0.cell? ⟨pb, j, none⟩ := fun j => hst.old.cell (p := ⟨pb, j, none⟩) hpz
          have hpw := HL.out _ hxm
          have hpx := HX.out _ hxm
          have hkk : (pk L i)[k]? = some (ixL L ((L.getD i lv0).parts.getD k pt0).lot) := by unfold pk; rw [List.getElem?_map, hx]; rfl
          have hsv := fun j => seenV_succ (S := S) hkk j
          have HSV := Lib.hid hsv
          clear hx hxm hpc hkk hsv
          generalize (L.getD i lv0).parts.getD k pt0 = p at *
          have e0 : World.cell? wr ⟨pb, po + k * 3, none⟩ = some (.int .i64 p.lot) := (q _).trans (ec 0 (by omega))
          have e1 : World.cell? wr ⟨pb, po + k * 3 + 1, none⟩ = some (.int .i64 p.lo) := (q _).trans (ec 1 (by omega))
          have e2 : World.cell? wr ⟨pb, po + k * 3 + 2, none⟩ = some (.int .i64 p.hi) := (q _).trans (ec 2 (by omega))
          clear ec q
          obtain ⟨y, pl, ph⟩ := p
          dsimp only at *
          obtain ⟨x1, x2, x3⟩ := hpx
          clear x3
          have hxl : ixL L y < L.length := by omega
          have hclo := (seenV_cl h0 hi (HC.out.le (Nat.le_succ i)) k).le (show ixL L y + 1 ≤ i by omega)
          have hst2 := hst.step (w' := wr.alloc (.cells #[.int .i64 y, .int .i64 pl, .int .i64 ph] 35)) (by repeat (first | (with_reducible exact Below.refl _ _) | (with_reducible assumption) | (with_reducible refine Below.drew ?_) | ((with_reducible refine Below.alloc ?_ ?_ _); rotate_left; (first | (with_reducible exact Nat.zero_le _) | (with_reducible exact Nat.le_refl _) | omega | (dsimp only; omega) | (simp only [World.size_alloc, World.size_setCell, World.size_drew]; omega))) | ((with_reducible refine Below.setCell ?_ ?_ _); rotate_left; (first | (with_reducible exact Nat.zero_le _) | (with_reducible exact Nat.le_refl _) | omega | (dsimp only; omega) | (simp only [World.size_alloc, World.size_setCell, World.size_drew]; omega)))))
          have BP := Blk.new wr 35 #[.int .i64 y, .int .i64 pl, .int .i64 ph]
          generalize hG : ixL L y = G at *
          clear hG
          have hcall := HI.out G (by omega) hxl
          obtain ⟨nn, ss, hmap⟩ := hst2.map
          have hlk : (Instr.lookup 54 (.map (some bm)) (.int .i64 y) false).run Try.prog (wr.alloc (.cells #[.int .i64 y, .int .i64 pl, .int .i64 ph] 35)) = .ok (.int .i64 G) (wr.alloc (.cells #[.int .i64 y, .int .i64 pl, .int .i64 ph] 35)) := by
            have := hmap.run_look (e := 3) Try.underlying3 Try.underlying54 0 (zeroI _) y hpw
            rw [x2] at this
            exact this
          have hvis := hcall _ _ hst2 hclo
          have d0 : wr.cell? ⟨gV, 0, none⟩ = some (.func (.func 35) #[] #[.pointer (some ⟨gS, 0, none⟩), .pointer (some ⟨gL, 0, none⟩), .pointer (some ⟨gV, 0, none⟩), .pointer (some ⟨gK, 0, none⟩)]) := hst.vis.cell 0
          have d1 : wr.cell? ⟨gK, 0, none⟩ = some (.map (some bm)) := hst.kno.cell 0
          have l0 := hst.vis.lt
          have l1 := hst.kno.lt
          clear hst hst2 hclo hcall hmap
          go_wp2_with (go_at_call 35; refine hvis.mono ?_; rintro e w4 ⟨rfl, h4⟩)
          go_roundw
          case rel => exact ⟨k + 1, by omega, by simp, h4.congr fun j _ => (HSV.out j).symm⟩
          case measure => simp [intOf] <;> omega
        · obtain rfl : k = M := by omega
          have HST := Lib.hid (hst.congr (T := fun j => S j || rB L i j) fun j _ => by rw [← hpk]; exact seenV_all h0 hi j)
          clear hst
          go_wp2_with fail
          go_end0
          exact ⟨rfl, HST.out⟩

end Go.Proofs.Ytpafcdigcpbbeaa
