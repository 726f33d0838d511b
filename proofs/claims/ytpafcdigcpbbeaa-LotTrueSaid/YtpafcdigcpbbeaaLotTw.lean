/- The walk of LotTrue. -/
import Derived.Test.YtpafcdigcpbbeaaLotMw
import Derived.Test.YtpafcdigcpbbeaaLotTp
import Derived.OneCell
import Derived.Deep.DeepCutAuto
namespace Go.Proofs.Ytpafcdigcpbbeaa
set_option linter.unusedVariables false
set_option linter.unusedSimpArgs false
open Go.RowKit

def encG (g : Gv) : List Value := [.int .u16 g.mass, .int .u16 g.take, .int .u16 g.low, .int .u16 g.high, .int .u16 g.plow, .int .u16 g.phigh]
theorem encG_len (g : Gv) : (encG g).length = 6 := rfl
theorem own_seti {W : World} {base g cap : Nat} {l : List Int} (h : W.ownsRow base 3 1 (.slice (some ⟨g, 0, none⟩) l.length cap) l.length (rowOf encI1 l)) {i : Nat} (hi : i < l.length) (x : Int) :
    (W.setCell ⟨g, i, none⟩ (.int .i64 x)).ownsRow base 3 1 (.slice (some ⟨g, 0, none⟩) (l.set i x).length cap) (l.set i x).length (rowOf encI1 (l.set i x)) := by
  have hx : l[i]? = some l[i] := List.getElem?_eq_getElem hi
  have e := rowOf_set (f := encI1) (k := 1) encI1_len 0 (.int .i64 x) (by omega) l i _ x hx rfl
  rw [Nat.mul_one, Nat.add_zero] at e
  rw [← e, List.length_set]
  obtain ⟨h1, h2⟩ := h
  refine ⟨by rw [List.length_set]; exact h1, ?_⟩
  rcases h2 with ⟨h2, _⟩ | ⟨g', cap', cur, h2, h3, h4, h5, h6, h7, h8⟩
  · cases h2
  · injection h2 with h2 _ h2'
    injection h2 with h2
    injection h2 with h2
    subst h2 h2'
    refine .inr ⟨g, cap, cur.setIfInBounds i (.int .i64 x), rfl, h3, (show Blk W g 3 cur from h4).put i _, h5, h6, by simpa using h7, ?_⟩
    rw [Array.toList_setIfInBounds, List.take_set, h8]
def TtRel (w : World) (gs : List Gv) (v5 v6 m : Value) (wr : World) : Prop :=
  ∃ (k : Nat) (pvs : Nat → Value), k ≤ gs.length ∧ m = .int .i64 k ∧ Below w.heap.size w wr ∧ wr.ownsRow w.heap.size 33 5 v5 k (rowOf encV (LG gs pvs k)) ∧ wr.ownsRow w.heap.size 3 1 v6 k (rowOf encI1 (RG gs k)) ∧ Apart v5 v6 ∧
    ∀ i, i < k → wr.ownsRow w.heap.size 35 3 (pvs i) (partsG gs i).length (rowOf encT (partsG gs i)) ∧ Apart (pvs i) v5 ∧ Apart (pvs i) v6
/-- Nothing old but block g has changed. -/
structure BelowX (g : Nat) (w w' : World) : Prop where
  os : w'.os = w.os
  tape : w'.tape = w.tape
  output : w'.output = w.output
  size : w.heap.size ≤ w'.heap.size
  block : ∀ k, k < w.heap.size → k ≠ g → w'.heap[k]? = w.heap[k]?
section
variable {g : Nat} {w w' w'' : World}
theorem BelowX.refl (g : Nat) (w : World) : BelowX g w w := ⟨rfl, rfl, rfl, Nat.le_refl _, fun _ _ _ => rfl⟩
theorem BelowX.step (h : BelowX g w w') (k : Below w'.heap.size w' w'') : BelowX g w w'' :=
  ⟨k.os.trans h.os, k.tape.trans h.tape, k.output.trans h.output, Nat.le_trans h.size k.size, fun i hi hg => (k.block i (Nat.lt_of_lt_of_le hi h.size)).trans (h.block i hi hg)⟩
theorem BelowX.set (h : BelowX g w w') (o : Nat) (u : Value) : BelowX g w (w'.setCell ⟨g, o, none⟩ u) :=
  ⟨h.os, h.tape, h.output, Nat.le_trans h.size (by simp), fun k hk hg => (Below.heap_setCell w' ⟨g, o, none⟩ u k hg).trans (h.block k hk hg)⟩
theorem BelowX.alloc (h : BelowX g w w') (o : Obj) : BelowX g w (w'.alloc o) := h.step ((Below.refl _ _).alloc (Nat.le_refl _) o)
theorem own_X {base n C : Nat} {e : TypeId} {v : Value} {xs : List Value} (h : w.ownsRow base e C v n xs) (hx : BelowX g w w') (hne : v.ownBlock ≠ some g) : w'.ownsRow base e C v n xs := by
  refine ⟨h.1, ?_⟩
  rcases h.2 with h1 | ⟨b, cap, cur, h1, h2, h3, h4⟩
  · exact .inl h1
  · have hlt : b < w.heap.size := by
      rcases Nat.lt_or_ge b w.heap.size with h5 | h5
      · exact h5
      · simp [Array.getElem?_eq_none h5] at h3
    exact .inr ⟨b, cap, cur, h1, h2, (hx.block b hlt (fun e => hne (by rw [h1, e]; rfl))).trans h3, h4⟩
theorem own_new {base : Nat} {e : TypeId} {C : Nat} {xs : List Value} {cs : Array Value} (hg : base ≤ g) (hB : Blk w g e cs) (hc : cs.toList = xs) (hl : xs.length = C) : w.ownsRow base e C (.slice (some ⟨g, 0, none⟩) 1 1) 1 xs :=
  ⟨by rw [hl]; simp, .inr ⟨g, 1, cs, rfl, hg, hB, Nat.le_refl _, by decide, by rw [← Array.length_toList, hc, hl]; simp, by rw [hc, List.take_of_length_le (by omega)]⟩⟩
end
/-- The rows of the law between the two appends of a round. -/
structure Tt (w W : World) (gs : List Gv) (kL k : Nat) (pvs : Nat → Value) (v5 v6 : Value) (R : List Int) : Prop where
  below : Below w.heap.size w W
  L : W.ownsRow w.heap.size 33 5 v5 kL (rowOf encV (LG gs pvs kL))
  R : W.ownsRow w.heap.size 3 1 v6 k (rowOf encI1 R)
  ap : Apart v5 v6
  ps : ∀ i, i < k + 1 → W.ownsRow w.heap.size 35 3 (pvs i) (partsG gs i).length (rowOf encT (partsG gs i)) ∧ Apart (pvs i) v5 ∧ Apart (pvs i) v6
section
variable {w W W' : World} {gs : List Gv} {kL k : Nat} {pvs : Nat → Value} {v5 v6 v7 v8 PV : Value} {R : List Int} {mm : Int}
theorem Apart.symm {u v : Value} (h : Apart u v) : Apart v u := fun j hj hu => h j hu hj
theorem Tt.step (h : Tt w W gs kL k pvs v5 v6 R) (hb : Below W.heap.size W W') : Tt w W' gs kL k pvs v5 v6 R :=
  ⟨h.below.trans (hb.mono h.below.size), ownsRow_step h.L hb, ownsRow_step h.R hb, h.ap, fun i hi => ⟨ownsRow_step (h.ps i hi).1 hb, (h.ps i hi).2⟩⟩
theorem Tt.app (h : Tt w W gs k k pvs v5 v6 R) (hg : W.grownBy W' v5.ownBlock) (own : W'.ownsRow w.heap.size 33 5 v7 (k + 1) (rowOf encV (LG gs pvs k) ++ encV (lotG gs pvs k))) (hat : v7.ownBlock = v5.ownBlock ∨ v7.ownBlock = some W.heap.size) : Tt w W' gs (k + 1) k pvs v7 v6 R :=
  ⟨Below.grown h.below hg h.below.size (own_ge' h.L), by rw [LG_succ, rowOf_append]; simpa [rowOf] using own, own_grown h.R hg h.ap.symm, (h.ap.symm.grow h.R hat).symm, fun i hi => ⟨own_grown (h.ps i hi).1 hg (h.ps i hi).2.1, (h.ps i hi).2.1.grow (h.ps i hi).1 hat, (h.ps i hi).2.2⟩⟩
theorem Tt.app2 (h : Tt w W gs (k + 1) k pvs v7 v6 R) (hg : W.grownBy W' v6.ownBlock) (own : W'.ownsRow w.heap.size 3 1 v8 (k + 1) (rowOf encI1 R ++ encI1 mm)) (hat : v8.ownBlock = v6.ownBlock ∨ v8.ownBlock = some W.heap.size) (hR : RG gs (k + 1) = R ++ [mm]) (hk : k < gs.length) : TtRel w gs v7 v8 (.int .i64 (k + 1)) W' :=
  ⟨k + 1, pvs, hk, by simp, Below.grown h.below hg h.below.size (own_ge' h.R), own_grown h.L hg h.ap, by rw [hR, rowOf_append]; simpa [rowOf] using own, h.ap.grow h.L hat, fun i hi => ⟨own_grown (h.ps i hi).1 hg (h.ps i hi).2.2, (h.ps i hi).2.1, (h.ps i hi).2.2.grow (h.ps i hi).1 hat⟩⟩
theorem own_last (h : W.ownsRow w.heap.size 3 1 v6 k (rowOf encI1 (RG gs k))) (hk : k ≠ 0) : ∃ g c, v6 = .slice (some ⟨g, 0, none⟩) k c ∧ w.heap.size ≤ g ∧ g < W.heap.size ∧ k ≤ c ∧ c ≤ 9223372036854775807 ∧ W.cell? ⟨g, k - 1, none⟩ = some (.int .i64 (mG gs (k - 1))) ∧ ∀ i, W.frozen? ⟨g, i, none⟩ = false := by
  rcases ownsRow_open h with ⟨_, e, _⟩ | ⟨g, c, cur, e, h1, h2, h3, h4, h5, h6⟩
  · exact absurd e hk
  · refine ⟨g, c, e, h1, h2.lt, h3, h4, ?_, h2.free⟩
    rw [h2.cell, h6 (k - 1) (by omega)]
    have hx : (RG gs k)[k - 1]? = some (mG gs (k - 1)) := by
      have e1 : (RG gs k)[k - 1]? = some (rG gs k (k - 1)) := by simp [RG, show k - 1 < k by omega]
      rw [e1]; unfold rG; rw [if_neg (by omega)]
    have := rowOf_get (f := encI1) (k := 1) encI1_len (RG gs k) (k - 1) 0 _ hx (by omega)
    rw [Nat.mul_one, Nat.add_zero] at this
    exact this
def pvN (pvs : Nat → Value) (k : Nat) (PV : Value) : Nat → Value := fun i => if i < k then pvs i else PV
theorem pvN_at (pvs : Nat → Value) (k : Nat) (PV : Value) : pvN pvs k PV k = PV := by unfold pvN; rw [if_neg (Nat.lt_irrefl _)]
theorem Tt.start (hb : Below w.heap.size w W) (hL : W.ownsRow w.heap.size 33 5 v5 k (rowOf encV (LG gs pvs k))) (hR : W.ownsRow w.heap.size 3 1 v6 k (rowOf encI1 R)) (hap : Apart v5 v6)
    (hps : ∀ i, i < k → W.ownsRow w.heap.size 35 3 (pvs i) (partsG gs i).length (rowOf encT (partsG gs i)) ∧ Apart (pvs i) v5 ∧ Apart (pvs i) v6)
    (hn : W.ownsRow w.heap.size 35 3 PV (partsG gs k).length (rowOf encT (partsG gs k)) ∧ Apart PV v5 ∧ Apart PV v6) : Tt w W gs k k (pvN pvs k PV) v5 v6 R := by
  refine ⟨hb, ?_, hR, hap, fun i hi => ?_⟩
  · rw [LG_congr (pvs := pvN pvs k PV) (qvs := pvs) (k := k) (fun i hi => by unfold pvN; rw [if_pos hi])]; exact hL
  · unfold pvN
    by_cases e : i < k
    · rw [if_pos e]; exact hps i e
    · obtain rfl : i = k := by omega
      rw [if_neg e]; exact hn
end
theorem lot_cells {gs : List Gv} {k : Nat} {pvs : Nat → Value} {PV : Value} {g : Gv} {mm lo : Int} (hg : g = gs.getD k gv0) (hm : mG gs k = mm) (hlo : max0 (mm - g.low) = lo) : encV (lotG gs (pvN pvs k PV) k) = [.int .i64 ((k : Int) + 1), .int .i64 0, .int .i64 lo, .int .i64 (mm + g.high), PV] := by
  unfold encV lotG
  dsimp only
  rw [pvN_at, ← hg, hm, hlo]
theorem oneX {a b c d : Int} {oa : Option Addr} {l cc : Nat} : ∀ u ∈ [.int .i64 a, .int .i64 b, .int .i64 c, .int .i64 d, .slice oa l cc], Value.oneCell' u = true := fun u hu => by
  simp at hu
  rcases hu with rfl | rfl | rfl | rfl | rfl <;> rfl
set_option maxRecDepth 100000 in
set_option maxHeartbeats 8000000 in
theorem law_true {w : World} {v : Value} {gs : List Gv} (h : RowIn w v 6 encG gs) (hok : ∀ g ∈ gs, GvOk g) (a : Int) (ha0 : 0 ≤ a ∧ a ≤ 255) : Calls Try.prog 8 #[v, .int .u8 a] w fun e w' => e = .returned (.bool true) ∧ Below w.heap.size w w' := by
  have ha := awake_any
  obtain ⟨oa, cap, hv, p1, p2, _, hp5⟩ := h.at_
  subst hv
  unfold maxLen at p2
  have HP := Lib.hid hp5
  have HOK := Lib.hid hok
  have HH := Lib.hid h
  clear hp5 hok h
  by_cases hn : gs.length = 0 ∨ 60 < gs.length
  · have hc : ((gs.length : Int) == 0) = true ∨ (((gs.length : Int) == 0) = false ∧ (gs.length : Int) > 60) := by
      rcases hn with h | h
      · exact .inl (by simp [h])
      · exact .inr ⟨by simp; intro e; rw [e] at h; simp at h, by omega⟩
    clear hn
    rcases hc with h1 | ⟨h1, h2⟩
    all_goals (
      go_enter Try.func8, Try.ntmps8
      go_wp2_with fail
      refine (ha _).mono ?_
      rintro e w2 ⟨rfl, hb2⟩
      go_wp2_with fail
      go_ret
      exact ⟨by first | rfl | simp, hb2⟩)
  have hn0 : gs.length ≠ 0 := fun e => hn (.inl e)
  have hn60 : gs.length ≤ 60 := by omega
  have hn' : ((gs.length : Int) == 0) = false := by simpa using hn0
  have hng : ¬ (gs.length : Int) > 60 := by omega
  clear hn
  obtain ⟨ti, ii, iz, isi, iby⟩ := info_of (P := Try.prog) (t := 33) (z := .agg #[.int .i64 0, .int .i64 0, .int .i64 0, .int .i64 0, .slice none 0 0]) (size := 5) (bytes := 56) (by kernel_rfl)
  obtain ⟨tj, ji, jz, jsi, jby⟩ := info_of (P := Try.prog) (t := 3) (z := .int .i64 0) (size := 1) (bytes := 8) (by kernel_rfl)
  go_enter Try.func8, Try.ntmps8
  go_wp2_with fail
  go_loopw [5, 6, 25] (fun v5 v6 m wr => TtRel w gs v5 v6 m wr) (fun _ _ m _ => (gs.length - intOf m).toNat)
  case atStart => exact ⟨0, fun _ => undef, Nat.zero_le _, rfl, Below.refl _ _, ⟨by simp [rowOf, LG], .inl ⟨rfl, rfl⟩⟩, ⟨by simp [rowOf, RG], .inl ⟨rfl, rfl⟩⟩, (fun j hj => nomatch hj), fun i hi => absurd hi (Nat.not_lt_zero _)⟩
  case round =>
    obtain ⟨k, pvs, hk, rfl, hbr, ownL, ownR, hap, hps⟩ := hrel
    have hsz := hbr.size
    by_cases hkl : k < gs.length
    · have hki : (k : Int) < gs.length := by omega
      have hk0 : (0 : Int) ≤ k := by omega
      have hx := getD_of (d := gv0) hkl
      obtain ⟨ob, oo, rfl, hoz, hoc⟩ := HP.out (by rintro rfl; simp at hkl)
      have ec := hoc k _ hx
      have q : ∀ j, wr.cell? ⟨ob, j, none⟩ = w.cell? ⟨ob, j, none⟩ := fun j => hbr.cell (p := ⟨ob, j, none⟩) hoz
      have hgk := gv_ok HOK.out k
      have hmk := mG_bd HOK.out k
      obtain ⟨G, hG⟩ : ∃ G, G = gs.getD k gv0 := ⟨_, rfl⟩
      rw [← hG] at ec hgk
      have e0 : World.cell? wr ⟨ob, oo + k * 6, none⟩ = some (.int .u16 G.mass) := (q _).trans (ec 0 (by omega))
      have e1 : World.cell? wr ⟨ob, oo + k * 6 + 1, none⟩ = some (.int .u16 G.take) := (q _).trans (ec 1 (by omega))
      have e2 : World.cell? wr ⟨ob, oo + k * 6 + 2, none⟩ = some (.int .u16 G.low) := (q _).trans (ec 2 (by omega))
      have e3 : World.cell? wr ⟨ob, oo + k * 6 + 3, none⟩ = some (.int .u16 G.high) := (q _).trans (ec 3 (by omega))
      have e4 : World.cell? wr ⟨ob, oo + k * 6 + 4, none⟩ = some (.int .u16 G.plow) := (q _).trans (ec 4 (by omega))
      have e5 : World.cell? wr ⟨ob, oo + k * 6 + 5, none⟩ = some (.int .u16 G.phigh) := (q _).trans (ec 5 (by omega))
      have HG := Lib.hid hG
      clear ec q hx hoc hG
      obtain ⟨gm, gt, gl, gh, gp, gq⟩ := G
      obtain ⟨⟨a1, a2⟩, ⟨b1, b2⟩, ⟨c1, c2⟩, ⟨d1, d2⟩, ⟨f1, f2⟩, ⟨g1, g2⟩⟩ := hgk
      dsimp only at *
      have HO5 := Lib.hid ownL
      have HO6 := Lib.hid ownR
      have HAP := Lib.hid hap
      have HPS := Lib.hid hps
      have HBR := Lib.hid hbr
      by_cases hp : hasP gs k
      · have hp1 := hp.1
        have hk1 : k ≠ 0 := by omega
        obtain ⟨j, hj⟩ : ∃ j, k = j + 1 := ⟨k - 1, by omega⟩
        have hm0 := mG_take (gs := gs) (k - 1) hp.2
        rw [show k - 1 + 1 = k by omega, ← HG.out] at hm0
        dsimp only at hm0
        obtain ⟨hm1, hm2, hm3⟩ := hm0
        have hMp : mG gs (k - 1) > 0 := hp.2
        have hMb := mG_bd HOK.out (k - 1)
        have hR := RG_succ (gs := gs) k
        rw [if_pos hp] at hR
        have hpg : partsG gs k = [ptG gs k] := if_pos hp
        have hptG : ptG gs k = ⟨k, max0 (mG gs k - gp), mG gs k + gq⟩ := by unfold ptG; rw [← HG.out]
        obtain ⟨g6, c6, hu6, s1, s2, s3, s4, s5, s6⟩ := own_last ownR hk1
        subst hu6
        have hkp : (k : Int) > 0 := by omega
        have HR := Lib.hid hR
        have HPG := Lib.hid hpg
        have HPT := Lib.hid hptG
        have HM1 := Lib.hid hm1
        clear hj hp hR hpg hptG ownL ownR hap hps hbr hp1
        generalize mG gs (k - 1) = M at *
        have hM0 : M ≠ 0 := by omega
        clear hm1
        go_wp2_with fail
        have hbA : Below wr.heap.size wr ((wr.alloc (.cells #[.int .u16 gm, .int .u16 gt, .int .u16 gl, .int .u16 gh, .int .u16 gp, .int .u16 gq] 50)).alloc (.cells #[.int .i64 ((k : Int) + 1), .int .i64 0, .int .i64 0, .int .i64 0, .slice none 0 0] 33)) := by repeat (first | (with_reducible exact Below.refl _ _) | (with_reducible assumption) | (with_reducible refine Below.drew ?_) | ((with_reducible refine Below.alloc ?_ ?_ _); rotate_left; (first | (with_reducible exact Nat.zero_le _) | (with_reducible exact Nat.le_refl _) | omega | (dsimp only; omega) | (simp only [World.size_alloc, World.size_setCell, World.size_drew]; omega))) | ((with_reducible refine Below.setCell ?_ ?_ _); rotate_left; (first | (with_reducible exact Nat.zero_le _) | (with_reducible exact Nat.le_refl _) | omega | (dsimp only; omega) | (simp only [World.size_alloc, World.size_setCell, World.size_drew]; omega))))
        have BG := (Blk.new wr 50 #[.int .u16 gm, .int .u16 gt, .int .u16 gl, .int .u16 gh, .int .u16 gp, .int .u16 gq]).alloc (.cells #[.int .i64 ((k : Int) + 1), .int .i64 0, .int .i64 0, .int .i64 0, .slice none 0 0] 33)
        have BX := Blk.new (wr.alloc (.cells #[.int .u16 gm, .int .u16 gt, .int .u16 gl, .int .u16 gh, .int .u16 gp, .int .u16 gq] 50)) 33 #[.int .i64 ((k : Int) + 1), .int .i64 0, .int .i64 0, .int .i64 0, .slice none 0 0]
        rw [World.size_alloc] at BX
        have k5 := (hbA.cell (p := ⟨g6, k - 1, none⟩) s2).trans s5
        generalize (wr.alloc (.cells #[.int .u16 gm, .int .u16 gt, .int .u16 gl, .int .u16 gh, .int .u16 gp, .int .u16 gq] 50)).alloc (.cells #[.int .i64 ((k : Int) + 1), .int .i64 0, .int .i64 0, .int .i64 0, .slice none 0 0] 33) = wA at *
        have HS6 := Lib.hid s6
        clear e0 e1 e2 e3 e4 e5 s5 s6
        have hzA := hbA.size
        have lg6 : g6 < wA.heap.size := by omega
        have c1 : wA.cell? ⟨wr.heap.size, 1, none⟩ = some (.int .u16 gt) := BG.cell 1
        have l1 := BG.lt
        have HBG := Lib.hid BG
        have HBX := Lib.hid BX
        have HBA := Lib.hid hbA
        clear BG BX hbA
        have hmmb := mG_bd HOK.out k
        have hwr : wrap64 (gt % M + 1) = mG gs k := by
          rw [HM1.out] at hmmb ⊢
          simp only [wrap64]; omega
        have HLC0 := Lib.hid (fun (lo : Int) (PV : Value) (h : max0 (mG gs k - gl) = lo) => lot_cells (pvs := pvs) (PV := PV) HG.out rfl h)
        generalize mG gs k = mm at *
        go_quiet (fail)
        rw [hwr]
        have hnq := below_drewM (w := wA) nq
        have BG := HBG.out.step hnq
        have BX := HBX.out.step hnq
        have HBB := Lib.hid (HBA.out.trans (hnq.mono hzA))
        have k6 := (hnq.cell (p := ⟨g6, k - 1, none⟩) lg6).trans k5
        have hzB := hnq.size
        clear hnq k5 c1 l1 hwr
        generalize wA.drewN nq = wB at *
        have lg7 : g6 < wB.heap.size := by omega
        have f6 : ∀ i, wB.frozen? ⟨g6, i, none⟩ = false := fun i => (HBB.out.frozen (p := ⟨g6, i, none⟩) s2).trans (HS6.out i)
        have c2 : wB.cell? ⟨wr.heap.size, 2, none⟩ = some (.int .u16 gl) := BG.cell 2
        have c3 : wB.cell? ⟨wr.heap.size, 3, none⟩ = some (.int .u16 gh) := BG.cell 3
        have c4 : wB.cell? ⟨wr.heap.size, 4, none⟩ = some (.int .u16 gp) := BG.cell 4
        have c5 : wB.cell? ⟨wr.heap.size, 5, none⟩ = some (.int .u16 gq) := BG.cell 5
        have l1 := BG.lt
        have cx := BX.cell
        have lx := BX.lt
        have fx := BX.free
        have n1 : g6 ≠ wr.heap.size := by omega
        have n2 : wr.heap.size ≠ g6 := by omega
        have n3 : g6 ≠ wr.heap.size + 1 := by omega
        have n4 : wr.heap.size + 1 ≠ g6 := by omega
        have hd1 : 0 < mm - gp ∨ ¬ 0 < mm - gp := by omega
        have hd2 : 0 < mm - gl ∨ ¬ 0 < mm - gl := by omega
        have HBG2 := Lib.hid BG
        have HBX2 := Lib.hid BX
        clear BG BX
        have HTW := Lib.hid (fun (plo lo : Int) (hpl : max0 (mm - gp) = plo) => (show Tt w (((((wB.setCell ⟨g6, k - 1, none⟩ (.int .i64 (M - mm))).setCell ⟨wr.heap.size + 1, 4, none⟩ (.slice (some ⟨wB.heap.size, 0, none⟩) 1 1)).setCell ⟨wr.heap.size + 1, 2, none⟩ (.int .i64 lo)).setCell ⟨wr.heap.size + 1, 3, none⟩ (.int .i64 (mm + gh))).alloc (.cells #[.int .i64 (k : Int), .int .i64 plo, .int .i64 (mm + gq)] 35)) gs k k (pvN pvs k (.slice (some ⟨wB.heap.size, 0, none⟩) 1 1)) u5 (.slice (some ⟨g6, 0, none⟩) k c6) ((RG gs k).set (k - 1) (M - mm)) ∧ Blk (((((wB.setCell ⟨g6, k - 1, none⟩ (.int .i64 (M - mm))).setCell ⟨wr.heap.size + 1, 4, none⟩ (.slice (some ⟨wB.heap.size, 0, none⟩) 1 1)).setCell ⟨wr.heap.size + 1, 2, none⟩ (.int .i64 lo)).setCell ⟨wr.heap.size + 1, 3, none⟩ (.int .i64 (mm + gh))).alloc (.cells #[.int .i64 (k : Int), .int .i64 plo, .int .i64 (mm + gq)] 35)) (wr.heap.size + 1) 33 #[.int .i64 ((k : Int) + 1), .int .i64 0, .int .i64 lo, .int .i64 (mm + gh), .slice (some ⟨wB.heap.size, 0, none⟩) 1 1] from by
          have hb0 := HBB.out
          have hLb := ownsRow_step HO5.out hb0
          have hRb := ownsRow_step HO6.out hb0
          have hYtpafcdigcpbbeaa : BelowX (wr.heap.size + 1) (wB.setCell ⟨g6, k - 1, none⟩ (.int .i64 (M - mm))) (((((wB.setCell ⟨g6, k - 1, none⟩ (.int .i64 (M - mm))).setCell ⟨wr.heap.size + 1, 4, none⟩ (.slice (some ⟨wB.heap.size, 0, none⟩) 1 1)).setCell ⟨wr.heap.size + 1, 2, none⟩ (.int .i64 lo)).setCell ⟨wr.heap.size + 1, 3, none⟩ (.int .i64 (mm + gh))).alloc (.cells #[.int .i64 (k : Int), .int .i64 plo, .int .i64 (mm + gq)] 35)) := ((((BelowX.refl _ _).set 4 _).set 2 _).set 3 _).alloc _
          have hR1 := own_seti (l := RG gs k) (g := g6) (cap := c6) (by rw [RG_len]; exact hRb) (i := k - 1) (by rw [RG_len]; omega) (M - mm)
          rw [List.length_set, RG_len] at hR1
          have hBP := Blk.new ((((wB.setCell ⟨g6, k - 1, none⟩ (.int .i64 (M - mm))).setCell ⟨wr.heap.size + 1, 4, none⟩ (.slice (some ⟨wB.heap.size, 0, none⟩) 1 1)).setCell ⟨wr.heap.size + 1, 2, none⟩ (.int .i64 lo)).setCell ⟨wr.heap.size + 1, 3, none⟩ (.int .i64 (mm + gh))) 35 #[.int .i64 (k : Int), .int .i64 plo, .int .i64 (mm + gq)]
          simp only [World.size_setCell] at hBP
          have hzw := HBR.out.size
          refine ⟨Tt.start ?_ (own_X (ownsRow_setCell_other (a := ⟨g6, k - 1, none⟩) hLb (fun e => HAP.out g6 e rfl) _) hYtpafcdigcpbbeaa (fun e => by have := own_lt HO5.out _ e; omega)) (own_X hR1 hYtpafcdigcpbbeaa (fun e => by injection e with e; dsimp only at e; omega)) HAP.out (fun i hi => ?_) ⟨?_, ?_, ?_⟩, ?_⟩
          · exact (((((HBR.out.trans (hb0.mono hzw)).setCell (p := ⟨g6, k - 1, none⟩) s1 _).setCell (p := ⟨wr.heap.size + 1, 4, none⟩) (by show w.heap.size ≤ wr.heap.size + 1; omega) _).setCell (p := ⟨wr.heap.size + 1, 2, none⟩) (by show w.heap.size ≤ wr.heap.size + 1; omega) _).setCell (p := ⟨wr.heap.size + 1, 3, none⟩) (by show w.heap.size ≤ wr.heap.size + 1; omega) _).alloc (by simp only [World.size_setCell]; omega) _
          · obtain ⟨h1, h2, h3⟩ := HPS.out i hi
            exact ⟨own_X (ownsRow_setCell_other (a := ⟨g6, k - 1, none⟩) (ownsRow_step h1 hb0) (fun e => h3 g6 e rfl) _) hYtpafcdigcpbbeaa (fun e => by have := own_lt h1 _ e; omega), h2, h3⟩
          · rw [HPG.out, HPT.out, hpl]
            exact own_new (g := wB.heap.size) (by omega) hBP rfl rfl
          · intro j hj he
            injection hj with hj
            have := own_lt HO5.out j he
            dsimp only at hj
            omega
          · intro j hj he
            injection hj with hj
            injection he with he
            dsimp only at hj he
            omega
          · exact ((((HBX2.out.far (p := ⟨g6, k - 1, none⟩) (fun e => by dsimp only at e; omega) _).put 4 _).put 2 _).put 3 _).alloc _))
        rcases hd1 with hd1 | hd1 <;> rcases hd2 with hd2 | hd2
        · skip
          have HLC := Lib.hid (HLC0.out ((mm - gl)) (.slice (some ⟨wB.heap.size, 0, none⟩) 1 1) ((max0_bd _).2.2.1 (by omega)))
          obtain ⟨hT0, hX0⟩ := HTW.out ((mm - gp)) ((mm - gl)) ((max0_bd _).2.2.1 (by omega))
          go_upto_region 15 with fail
          clear k6 lg7 f6 c2 c3 c4 c5 l1 cx lx fx n1 n2 n3 n4 hd1 hd2 HTW
          have cx := hX0.cell
          have lx := hX0.lt
          generalize (((((wB.setCell ⟨g6, k - 1, none⟩ (.int .i64 (M - mm))).setCell ⟨wr.heap.size + 1, 4, none⟩ (.slice (some ⟨wB.heap.size, 0, none⟩) 1 1)).setCell ⟨wr.heap.size + 1, 2, none⟩ (.int .i64 (mm - gl))).setCell ⟨wr.heap.size + 1, 3, none⟩ (.int .i64 (mm + gh))).alloc (.cells #[.int .i64 (k : Int), .int .i64 (mm - gp), .int .i64 (mm + gq)] 35)) = w3 at *
          have HT1 := Lib.hid (hT0.step ((Below.refl w3.heap.size w3).alloc (Nat.le_refl _) (.cells #[.int .i64 ((k : Int) + 1), .int .i64 0, .int .i64 (mm - gl), .int .i64 (mm + gh), .slice (some ⟨wB.heap.size, 0, none⟩) 1 1] 33)))
          have HK1 := Lib.hid (Blk.new w3 33 #[.int .i64 ((k : Int) + 1), .int .i64 0, .int .i64 (mm - gl), .int .i64 (mm + gh), .slice (some ⟨wB.heap.size, 0, none⟩) 1 1])
          clear hT0 hX0
          go_wp2_with (first
            | (at_builtin; refine wpList_append_any _ rfl _ _ _ rfl w.heap.size 33 ti _ 5 56 Try.underlying22 ii iz isi iby rfl (by omega) _ k _ rfl HT1.out.L _ 1 [.int .i64 ((k : Int) + 1), .int .i64 0, .int .i64 (mm - gl), .int .i64 ((mm) + gh), .slice (some ⟨wB.heap.size, 0, none⟩) 1 1] rfl (Src.of_blk HK1.out 1) rfl oneX (by simp only [maxLen]; omega) (by omega) HT1.out.below.size ?_; intro v7 w7 own7 hg7 hat7; have HT2 := Lib.hid (HT1.out.app hg7 (by rw [HLC.out]; exact own7) hat7); obtain ⟨oa7, c7, rfl⟩ := own_slice own7; clear own7 hg7 hat7; have hbk2 : Below w7.heap.size w7 (w7.alloc (.cells #[.int .i64 (mm)] 3)) := (Below.refl _ _).alloc (Nat.le_refl _) _; have HT3 := Lib.hid (HT2.out.step hbk2); have HK2 := Lib.hid (Blk.new w7 3 #[.int .i64 (mm)]); clear hbk2)
            | (at_builtin; refine wpList_append_any _ rfl _ _ _ rfl w.heap.size 3 tj _ 1 8 Try.underlying40 ji jz jsi jby rfl (by omega) _ k _ rfl HT3.out.R _ 1 (encI1 (mm)) rfl (Src.of_blk HK2.out 1) rfl (fun u hu => oneI1 [mm] u (by simpa [rowOf] using hu)) (by simp only [maxLen]; omega) (by omega) HT3.out.below.size ?_; intro v8 w8 own8 hg8 hat8))
          have HF := Lib.hid (HT3.out.app2 hg8 own8 hat8 HR.out hkl)
          clear own8 hg8 hat8
          go_roundw
          case rel => exact HF.out
          case measure => simp [intOf] <;> omega
        · skip
          have HLC := Lib.hid (HLC0.out (0) (.slice (some ⟨wB.heap.size, 0, none⟩) 1 1) ((max0_bd _).2.2.2 (by omega)))
          obtain ⟨hT0, hX0⟩ := HTW.out ((mm - gp)) (0) ((max0_bd _).2.2.1 (by omega))
          go_upto_region 15 with fail
          clear k6 lg7 f6 c2 c3 c4 c5 l1 cx lx fx n1 n2 n3 n4 hd1 hd2 HTW
          have cx := hX0.cell
          have lx := hX0.lt
          generalize (((((wB.setCell ⟨g6, k - 1, none⟩ (.int .i64 (M - mm))).setCell ⟨wr.heap.size + 1, 4, none⟩ (.slice (some ⟨wB.heap.size, 0, none⟩) 1 1)).setCell ⟨wr.heap.size + 1, 2, none⟩ (.int .i64 0)).setCell ⟨wr.heap.size + 1, 3, none⟩ (.int .i64 (mm + gh))).alloc (.cells #[.int .i64 (k : Int), .int .i64 (mm - gp), .int .i64 (mm + gq)] 35)) = w3 at *
          have HT1 := Lib.hid (hT0.step ((Below.refl w3.heap.size w3).alloc (Nat.le_refl _) (.cells #[.int .i64 ((k : Int) + 1), .int .i64 0, .int .i64 0, .int .i64 (mm + gh), .slice (some ⟨wB.heap.size, 0, none⟩) 1 1] 33)))
          have HK1 := Lib.hid (Blk.new w3 33 #[.int .i64 ((k : Int) + 1), .int .i64 0, .int .i64 0, .int .i64 (mm + gh), .slice (some ⟨wB.heap.size, 0, none⟩) 1 1])
          clear hT0 hX0
          go_wp2_with (first
            | (at_builtin; refine wpList_append_any _ rfl _ _ _ rfl w.heap.size 33 ti _ 5 56 Try.underlying22 ii iz isi iby rfl (by omega) _ k _ rfl HT1.out.L _ 1 [.int .i64 ((k : Int) + 1), .int .i64 0, .int .i64 0, .int .i64 ((mm) + gh), .slice (some ⟨wB.heap.size, 0, none⟩) 1 1] rfl (Src.of_blk HK1.out 1) rfl oneX (by simp only [maxLen]; omega) (by omega) HT1.out.below.size ?_; intro v7 w7 own7 hg7 hat7; have HT2 := Lib.hid (HT1.out.app hg7 (by rw [HLC.out]; exact own7) hat7); obtain ⟨oa7, c7, rfl⟩ := own_slice own7; clear own7 hg7 hat7; have hbk2 : Below w7.heap.size w7 (w7.alloc (.cells #[.int .i64 (mm)] 3)) := (Below.refl _ _).alloc (Nat.le_refl _) _; have HT3 := Lib.hid (HT2.out.step hbk2); have HK2 := Lib.hid (Blk.new w7 3 #[.int .i64 (mm)]); clear hbk2)
            | (at_builtin; refine wpList_append_any _ rfl _ _ _ rfl w.heap.size 3 tj _ 1 8 Try.underlying40 ji jz jsi jby rfl (by omega) _ k _ rfl HT3.out.R _ 1 (encI1 (mm)) rfl (Src.of_blk HK2.out 1) rfl (fun u hu => oneI1 [mm] u (by simpa [rowOf] using hu)) (by simp only [maxLen]; omega) (by omega) HT3.out.below.size ?_; intro v8 w8 own8 hg8 hat8))
          have HF := Lib.hid (HT3.out.app2 hg8 own8 hat8 HR.out hkl)
          clear own8 hg8 hat8
          go_roundw
          case rel => exact HF.out
          case measure => simp [intOf] <;> omega
        · skip
          have HLC := Lib.hid (HLC0.out ((mm - gl)) (.slice (some ⟨wB.heap.size, 0, none⟩) 1 1) ((max0_bd _).2.2.1 (by omega)))
          obtain ⟨hT0, hX0⟩ := HTW.out (0) ((mm - gl)) ((max0_bd _).2.2.2 (by omega))
          go_upto_region 15 with fail
          clear k6 lg7 f6 c2 c3 c4 c5 l1 cx lx fx n1 n2 n3 n4 hd1 hd2 HTW
          have cx := hX0.cell
          have lx := hX0.lt
          generalize (((((wB.setCell ⟨g6, k - 1, none⟩ (.int .i64 (M - mm))).setCell ⟨wr.heap.size + 1, 4, none⟩ (.slice (some ⟨wB.heap.size, 0, none⟩) 1 1)).setCell ⟨wr.heap.size + 1, 2, none⟩ (.int .i64 (mm - gl))).setCell ⟨wr.heap.size + 1, 3, none⟩ (.int .i64 (mm + gh))).alloc (.cells #[.int .i64 (k : Int), .int .i64 0, .int .i64 (mm + gq)] 35)) = w3 at *
          have HT1 := Lib.hid (hT0.step ((Below.refl w3.heap.size w3).alloc (Nat.le_refl _) (.cells #[.int .i64 ((k : Int) + 1), .int .i64 0, .int .i64 (mm - gl), .int .i64 (mm + gh), .slice (some ⟨wB.heap.size, 0, none⟩) 1 1] 33)))
          have HK1 := Lib.hid (Blk.new w3 33 #[.int .i64 ((k : Int) + 1), .int .i64 0, .int .i64 (mm - gl), .int .i64 (mm + gh), .slice (some ⟨wB.heap.size, 0, none⟩) 1 1])
          clear hT0 hX0
          go_wp2_with (first
            | (at_builtin; refine wpList_append_any _ rfl _ _ _ rfl w.heap.size 33 ti _ 5 56 Try.underlying22 ii iz isi iby rfl (by omega) _ k _ rfl HT1.out.L _ 1 [.int .i64 ((k : Int) + 1), .int .i64 0, .int .i64 (mm - gl), .int .i64 ((mm) + gh), .slice (some ⟨wB.heap.size, 0, none⟩) 1 1] rfl (Src.of_blk HK1.out 1) rfl oneX (by simp only [maxLen]; omega) (by omega) HT1.out.below.size ?_; intro v7 w7 own7 hg7 hat7; have HT2 := Lib.hid (HT1.out.app hg7 (by rw [HLC.out]; exact own7) hat7); obtain ⟨oa7, c7, rfl⟩ := own_slice own7; clear own7 hg7 hat7; have hbk2 : Below w7.heap.size w7 (w7.alloc (.cells #[.int .i64 (mm)] 3)) := (Below.refl _ _).alloc (Nat.le_refl _) _; have HT3 := Lib.hid (HT2.out.step hbk2); have HK2 := Lib.hid (Blk.new w7 3 #[.int .i64 (mm)]); clear hbk2)
            | (at_builtin; refine wpList_append_any _ rfl _ _ _ rfl w.heap.size 3 tj _ 1 8 Try.underlying40 ji jz jsi jby rfl (by omega) _ k _ rfl HT3.out.R _ 1 (encI1 (mm)) rfl (Src.of_blk HK2.out 1) rfl (fun u hu => oneI1 [mm] u (by simpa [rowOf] using hu)) (by simp only [maxLen]; omega) (by omega) HT3.out.below.size ?_; intro v8 w8 own8 hg8 hat8))
          have HF := Lib.hid (HT3.out.app2 hg8 own8 hat8 HR.out hkl)
          clear own8 hg8 hat8
          go_roundw
          case rel => exact HF.out
          case measure => simp [intOf] <;> omega
        · skip
          have HLC := Lib.hid (HLC0.out (0) (.slice (some ⟨wB.heap.size, 0, none⟩) 1 1) ((max0_bd _).2.2.2 (by omega)))
          obtain ⟨hT0, hX0⟩ := HTW.out (0) (0) ((max0_bd _).2.2.2 (by omega))
          go_upto_region 15 with fail
          clear k6 lg7 f6 c2 c3 c4 c5 l1 cx lx fx n1 n2 n3 n4 hd1 hd2 HTW
          have cx := hX0.cell
          have lx := hX0.lt
          generalize (((((wB.setCell ⟨g6, k - 1, none⟩ (.int .i64 (M - mm))).setCell ⟨wr.heap.size + 1, 4, none⟩ (.slice (some ⟨wB.heap.size, 0, none⟩) 1 1)).setCell ⟨wr.heap.size + 1, 2, none⟩ (.int .i64 0)).setCell ⟨wr.heap.size + 1, 3, none⟩ (.int .i64 (mm + gh))).alloc (.cells #[.int .i64 (k : Int), .int .i64 0, .int .i64 (mm + gq)] 35)) = w3 at *
          have HT1 := Lib.hid (hT0.step ((Below.refl w3.heap.size w3).alloc (Nat.le_refl _) (.cells #[.int .i64 ((k : Int) + 1), .int .i64 0, .int .i64 0, .int .i64 (mm + gh), .slice (some ⟨wB.heap.size, 0, none⟩) 1 1] 33)))
          have HK1 := Lib.hid (Blk.new w3 33 #[.int .i64 ((k : Int) + 1), .int .i64 0, .int .i64 0, .int .i64 (mm + gh), .slice (some ⟨wB.heap.size, 0, none⟩) 1 1])
          clear hT0 hX0
          go_wp2_with (first
            | (at_builtin; refine wpList_append_any _ rfl _ _ _ rfl w.heap.size 33 ti _ 5 56 Try.underlying22 ii iz isi iby rfl (by omega) _ k _ rfl HT1.out.L _ 1 [.int .i64 ((k : Int) + 1), .int .i64 0, .int .i64 0, .int .i64 ((mm) + gh), .slice (some ⟨wB.heap.size, 0, none⟩) 1 1] rfl (Src.of_blk HK1.out 1) rfl oneX (by simp only [maxLen]; omega) (by omega) HT1.out.below.size ?_; intro v7 w7 own7 hg7 hat7; have HT2 := Lib.hid (HT1.out.app hg7 (by rw [HLC.out]; exact own7) hat7); obtain ⟨oa7, c7, rfl⟩ := own_slice own7; clear own7 hg7 hat7; have hbk2 : Below w7.heap.size w7 (w7.alloc (.cells #[.int .i64 (mm)] 3)) := (Below.refl _ _).alloc (Nat.le_refl _) _; have HT3 := Lib.hid (HT2.out.step hbk2); have HK2 := Lib.hid (Blk.new w7 3 #[.int .i64 (mm)]); clear hbk2)
            | (at_builtin; refine wpList_append_any _ rfl _ _ _ rfl w.heap.size 3 tj _ 1 8 Try.underlying40 ji jz jsi jby rfl (by omega) _ k _ rfl HT3.out.R _ 1 (encI1 (mm)) rfl (Src.of_blk HK2.out 1) rfl (fun u hu => oneI1 [mm] u (by simpa [rowOf] using hu)) (by simp only [maxLen]; omega) (by omega) HT3.out.below.size ?_; intro v8 w8 own8 hg8 hat8))
          have HF := Lib.hid (HT3.out.app2 hg8 own8 hat8 HR.out hkl)
          clear own8 hg8 hat8
          go_roundw
          case rel => exact HF.out
          case measure => simp [intOf] <;> omega
      · have hmv : mG gs k = gm := by
          cases k with
          | zero => unfold mG; rw [← HG.out]
          | succ j => unfold mG; rw [if_neg (fun hh => hp ⟨by omega, by rw [Nat.add_sub_cancel]; exact hh⟩), ← HG.out]
        have HMV := Lib.hid hmv
        have hR := RG_succ (gs := gs) k
        rw [if_neg hp] at hR
        have HR := Lib.hid hR
        have hpg : partsG gs k = [] := if_neg hp
        have HPG := Lib.hid hpg
        have hc : k = 0 ∨ (k ≠ 0 ∧ ¬ mG gs (k - 1) > 0) := by
          unfold hasP at hp
          omega
        have hd : 0 < gm - gl ∨ ¬ 0 < gm - gl := by omega
        have hml := max0_bd (gm - gl)
        have T0 := Tt.start (PV := .slice none 0 0) hbr ownL ownR hap hps ⟨by rw [hpg]; exact ⟨rfl, .inl ⟨rfl, rfl⟩⟩, (fun j hj => nomatch hj), (fun j hj => nomatch hj)⟩
        rw [hmv] at hR
        replace HR := Lib.hid hR
        have hb3 : ∀ lo : Int, Below wr.heap.size wr (((wr.alloc (.cells #[.int .u16 gm, .int .u16 gt, .int .u16 gl, .int .u16 gh, .int .u16 gp, .int .u16 gq] 50)).alloc (.cells #[.int .i64 ((k : Int) + 1), .int .i64 0, .int .i64 lo, .int .i64 (gm + gh), .slice none 0 0] 33)).alloc (.cells #[.int .i64 ((k : Int) + 1), .int .i64 0, .int .i64 lo, .int .i64 (gm + gh), .slice none 0 0] 33)) := fun lo => by repeat (first | (with_reducible exact Below.refl _ _) | (with_reducible assumption) | (with_reducible refine Below.drew ?_) | ((with_reducible refine Below.alloc ?_ ?_ _); rotate_left; (first | (with_reducible exact Nat.zero_le _) | (with_reducible exact Nat.le_refl _) | omega | (dsimp only; omega) | (simp only [World.size_alloc, World.size_setCell, World.size_drew]; omega))) | ((with_reducible refine Below.setCell ?_ ?_ _); rotate_left; (first | (with_reducible exact Nat.zero_le _) | (with_reducible exact Nat.le_refl _) | omega | (dsimp only; omega) | (simp only [World.size_alloc, World.size_setCell, World.size_drew]; omega))))
        have hK : ∀ lo : Int, Blk (((wr.alloc (.cells #[.int .u16 gm, .int .u16 gt, .int .u16 gl, .int .u16 gh, .int .u16 gp, .int .u16 gq] 50)).alloc (.cells #[.int .i64 ((k : Int) + 1), .int .i64 0, .int .i64 lo, .int .i64 (gm + gh), .slice none 0 0] 33)).alloc (.cells #[.int .i64 ((k : Int) + 1), .int .i64 0, .int .i64 lo, .int .i64 (gm + gh), .slice none 0 0] 33)) (wr.heap.size + 1 + 1) 33 #[.int .i64 ((k : Int) + 1), .int .i64 0, .int .i64 lo, .int .i64 (gm + gh), .slice none 0 0] := fun lo => by
          have := Blk.new ((wr.alloc (.cells #[.int .u16 gm, .int .u16 gt, .int .u16 gl, .int .u16 gh, .int .u16 gp, .int .u16 gq] 50)).alloc (.cells #[.int .i64 ((k : Int) + 1), .int .i64 0, .int .i64 lo, .int .i64 (gm + gh), .slice none 0 0] 33)) 33 #[.int .i64 ((k : Int) + 1), .int .i64 0, .int .i64 lo, .int .i64 (gm + gh), .slice none 0 0]
          simpa only [World.size_alloc] using this
        have HB3 := Lib.hid hb3
        have HK := Lib.hid hK
        have HT0 := Lib.hid T0
        have hr7 : 0 < k → wr.ownsRow w.heap.size 3 1 u6 k (rowOf encI1 (RG gs k)) := fun _ => ownR
        clear hR hpg hp ownL hap hps hbr hb3 hK T0
        have hkc : ¬ (k : Int) > 0 ∨ ((k : Int) > 0 ∧ k ≠ 0 ∧ ¬ mG gs (k - 1) > 0) := by omega
        clear hc
        rcases hkc with hkz | ⟨hkz, hk1, hm1⟩
        · clear ownR hr7
          rcases hd with hd | hd
          · have HT1 := Lib.hid (HT0.out.step (HB3.out (gm - gl)))
            have HK1 := Lib.hid (HK.out (gm - gl))
            have HLC := Lib.hid (lot_cells (pvs := pvs) (PV := .slice none 0 0) HG.out hmv (show max0 (gm - gl) = gm - gl from hml.2.2.1 (by omega)))
            clear hml hmv
            go_wp2_with (first
              | (at_builtin; refine wpList_append_any _ rfl _ _ _ rfl w.heap.size 33 ti _ 5 56 Try.underlying22 ii iz isi iby rfl (by omega) _ k _ rfl HT1.out.L _ 1 [.int .i64 ((k : Int) + 1), .int .i64 0, .int .i64 (gm - gl), .int .i64 ((gm) + gh), .slice none 0 0] rfl (Src.of_blk HK1.out 1) rfl oneX (by simp only [maxLen]; omega) (by omega) HT1.out.below.size ?_; intro v7 w7 own7 hg7 hat7; have HT2 := Lib.hid (HT1.out.app hg7 (by rw [HLC.out]; exact own7) hat7); obtain ⟨oa7, c7, rfl⟩ := own_slice own7; clear own7 hg7 hat7; have hbk2 : Below w7.heap.size w7 (w7.alloc (.cells #[.int .i64 (gm)] 3)) := (Below.refl _ _).alloc (Nat.le_refl _) _; have HT3 := Lib.hid (HT2.out.step hbk2); have HK2 := Lib.hid (Blk.new w7 3 #[.int .i64 (gm)]); clear hbk2)
              | (at_builtin; refine wpList_append_any _ rfl _ _ _ rfl w.heap.size 3 tj _ 1 8 Try.underlying40 ji jz jsi jby rfl (by omega) _ k _ rfl HT3.out.R _ 1 (encI1 (gm)) rfl (Src.of_blk HK2.out 1) rfl (fun u hu => oneI1 [gm] u (by simpa [rowOf] using hu)) (by simp only [maxLen]; omega) (by omega) HT3.out.below.size ?_; intro v8 w8 own8 hg8 hat8))
            have HF := Lib.hid (HT3.out.app2 hg8 own8 hat8 HR.out hkl)
            clear own8 hg8 hat8
            go_roundw
            case rel => exact HF.out
            case measure => simp [intOf] <;> omega
          · have HT1 := Lib.hid (HT0.out.step (HB3.out 0))
            have HK1 := Lib.hid (HK.out 0)
            have HLC := Lib.hid (lot_cells (pvs := pvs) (PV := .slice none 0 0) HG.out hmv (show max0 (gm - gl) = 0 from hml.2.2.2 (by omega)))
            clear hml hmv
            go_wp2_with (first
              | (at_builtin; refine wpList_append_any _ rfl _ _ _ rfl w.heap.size 33 ti _ 5 56 Try.underlying22 ii iz isi iby rfl (by omega) _ k _ rfl HT1.out.L _ 1 [.int .i64 ((k : Int) + 1), .int .i64 0, .int .i64 0, .int .i64 ((gm) + gh), .slice none 0 0] rfl (Src.of_blk HK1.out 1) rfl oneX (by simp only [maxLen]; omega) (by omega) HT1.out.below.size ?_; intro v7 w7 own7 hg7 hat7; have HT2 := Lib.hid (HT1.out.app hg7 (by rw [HLC.out]; exact own7) hat7); obtain ⟨oa7, c7, rfl⟩ := own_slice own7; clear own7 hg7 hat7; have hbk2 : Below w7.heap.size w7 (w7.alloc (.cells #[.int .i64 (gm)] 3)) := (Below.refl _ _).alloc (Nat.le_refl _) _; have HT3 := Lib.hid (HT2.out.step hbk2); have HK2 := Lib.hid (Blk.new w7 3 #[.int .i64 (gm)]); clear hbk2)
              | (at_builtin; refine wpList_append_any _ rfl _ _ _ rfl w.heap.size 3 tj _ 1 8 Try.underlying40 ji jz jsi jby rfl (by omega) _ k _ rfl HT3.out.R _ 1 (encI1 (gm)) rfl (Src.of_blk HK2.out 1) rfl (fun u hu => oneI1 [gm] u (by simpa [rowOf] using hu)) (by simp only [maxLen]; omega) (by omega) HT3.out.below.size ?_; intro v8 w8 own8 hg8 hat8))
            have HF := Lib.hid (HT3.out.app2 hg8 own8 hat8 HR.out hkl)
            clear own8 hg8 hat8
            go_roundw
            case rel => exact HF.out
            case measure => simp [intOf] <;> omega
        · obtain ⟨g6, c6, rfl, s1, s2, s3, s4, s5, s6⟩ := own_last (hr7 (by omega)) hk1
          clear ownR hr7
          rcases hd with hd | hd
          · have HT1 := Lib.hid (HT0.out.step (HB3.out (gm - gl)))
            have HK1 := Lib.hid (HK.out (gm - gl))
            have HLC := Lib.hid (lot_cells (pvs := pvs) (PV := .slice none 0 0) HG.out hmv (show max0 (gm - gl) = gm - gl from hml.2.2.1 (by omega)))
            clear hml hmv
            go_wp2_with (first
              | (at_builtin; refine wpList_append_any _ rfl _ _ _ rfl w.heap.size 33 ti _ 5 56 Try.underlying22 ii iz isi iby rfl (by omega) _ k _ rfl HT1.out.L _ 1 [.int .i64 ((k : Int) + 1), .int .i64 0, .int .i64 (gm - gl), .int .i64 ((gm) + gh), .slice none 0 0] rfl (Src.of_blk HK1.out 1) rfl oneX (by simp only [maxLen]; omega) (by omega) HT1.out.below.size ?_; intro v7 w7 own7 hg7 hat7; have HT2 := Lib.hid (HT1.out.app hg7 (by rw [HLC.out]; exact own7) hat7); obtain ⟨oa7, c7, rfl⟩ := own_slice own7; clear own7 hg7 hat7; have hbk2 : Below w7.heap.size w7 (w7.alloc (.cells #[.int .i64 (gm)] 3)) := (Below.refl _ _).alloc (Nat.le_refl _) _; have HT3 := Lib.hid (HT2.out.step hbk2); have HK2 := Lib.hid (Blk.new w7 3 #[.int .i64 (gm)]); clear hbk2)
              | (at_builtin; refine wpList_append_any _ rfl _ _ _ rfl w.heap.size 3 tj _ 1 8 Try.underlying40 ji jz jsi jby rfl (by omega) _ k _ rfl HT3.out.R _ 1 (encI1 (gm)) rfl (Src.of_blk HK2.out 1) rfl (fun u hu => oneI1 [gm] u (by simpa [rowOf] using hu)) (by simp only [maxLen]; omega) (by omega) HT3.out.below.size ?_; intro v8 w8 own8 hg8 hat8))
            have HF := Lib.hid (HT3.out.app2 hg8 own8 hat8 HR.out hkl)
            clear own8 hg8 hat8
            go_roundw
            case rel => exact HF.out
            case measure => simp [intOf] <;> omega
          · have HT1 := Lib.hid (HT0.out.step (HB3.out 0))
            have HK1 := Lib.hid (HK.out 0)
            have HLC := Lib.hid (lot_cells (pvs := pvs) (PV := .slice none 0 0) HG.out hmv (show max0 (gm - gl) = 0 from hml.2.2.2 (by omega)))
            clear hml hmv
            go_wp2_with (first
              | (at_builtin; refine wpList_append_any _ rfl _ _ _ rfl w.heap.size 33 ti _ 5 56 Try.underlying22 ii iz isi iby rfl (by omega) _ k _ rfl HT1.out.L _ 1 [.int .i64 ((k : Int) + 1), .int .i64 0, .int .i64 0, .int .i64 ((gm) + gh), .slice none 0 0] rfl (Src.of_blk HK1.out 1) rfl oneX (by simp only [maxLen]; omega) (by omega) HT1.out.below.size ?_; intro v7 w7 own7 hg7 hat7; have HT2 := Lib.hid (HT1.out.app hg7 (by rw [HLC.out]; exact own7) hat7); obtain ⟨oa7, c7, rfl⟩ := own_slice own7; clear own7 hg7 hat7; have hbk2 : Below w7.heap.size w7 (w7.alloc (.cells #[.int .i64 (gm)] 3)) := (Below.refl _ _).alloc (Nat.le_refl _) _; have HT3 := Lib.hid (HT2.out.step hbk2); have HK2 := Lib.hid (Blk.new w7 3 #[.int .i64 (gm)]); clear hbk2)
              | (at_builtin; refine wpList_append_any _ rfl _ _ _ rfl w.heap.size 3 tj _ 1 8 Try.underlying40 ji jz jsi jby rfl (by omega) _ k _ rfl HT3.out.R _ 1 (encI1 (gm)) rfl (Src.of_blk HK2.out 1) rfl (fun u hu => oneI1 [gm] u (by simpa [rowOf] using hu)) (by simp only [maxLen]; omega) (by omega) HT3.out.below.size ?_; intro v8 w8 own8 hg8 hat8))
            have HF := Lib.hid (HT3.out.app2 hg8 own8 hat8 HR.out hkl)
            clear own8 hg8 hat8
            go_roundw
            case rel => exact HF.out
            case measure => simp [intOf] <;> omega
    · obtain ⟨n, hnn⟩ : ∃ n, n = gs.length := ⟨_, rfl⟩
      have hkn : k = n := by omega
      subst hkn
      have hk60 : k ≤ 60 := by omega
      have hkf : ¬ (k : Int) < gs.length := by omega
      have hkpos : 0 < k := by omega
      clear hnn hkl hk
      have LI : LotsIn wr u5 (LG gs pvs k) := by
        refine ⟨RowIn.of_own (base := w.heap.size) (e := 33) encV_len (by rw [LG_len]; exact ownL), fun x hx => ?_, fun x hx => ?_, fun x hx => ?_⟩
        · obtain ⟨i, hi, rfl⟩ := List.mem_map.1 (show x ∈ (List.range k).map (lotG gs pvs) from hx)
          exact RowIn.of_own encT_len (hps i (List.mem_range.1 hi)).1
        · obtain ⟨i, hi, rfl⟩ := List.mem_map.1 (show x ∈ (List.range k).map (lotG gs pvs) from hx)
          have := List.mem_range.1 hi
          exact wf_of_has ⟨by show (-9223372036854775808 : Int) ≤ (i : Int) + 1; omega, by show (i : Int) + 1 ≤ 9223372036854775807; omega⟩
        · obtain ⟨i, hi, rfl⟩ := List.mem_map.1 (show x ∈ (List.range k).map (lotG gs pvs) from hx)
          have := List.mem_range.1 hi
          intro p hp
          obtain ⟨_, rfl⟩ := part_mem (show p ∈ partsG gs i from hp)
          exact wf_of_has ⟨by show (-9223372036854775808 : Int) ≤ (i : Int); omega, by show (i : Int) ≤ 9223372036854775807; omega⟩
      have hck := lcheck_any LI
      rw [LG_chk HOK.out hk60] at hck
      have RR : RowIn wr u6 1 encI1 (RG gs k) := RowIn.of_own (base := w.heap.size) (e := 3) encI1_len (by rw [RG_len]; exact ownR)
      have RLL := LI.row
      obtain ⟨la, lc, hle, l1, l2, _, _⟩ := RLL.at_
      rw [LG_len] at hle l1
      subst hle
      obtain ⟨ra, rc, hre, r1, r2, _, hr5⟩ := RR.at_
      rw [RG_len] at hre r1
      subst hre
      unfold maxLen at l2 r2
      have hin : (a % k).toNat < k := by
        have := Int.emod_nonneg a (show (k : Int) ≠ 0 by omega)
        have := Int.emod_lt_of_pos a (show (0 : Int) < k by omega)
        omega
      have eii : a % k = ((a % k).toNat : Int) := (Int.toNat_of_nonneg (Int.emod_nonneg a (by omega))).symm
      generalize (a % k).toNat = i at *
      have hlf := LG_left (pvs := pvs) HOK.out hk60 hin
      obtain ⟨hl0, hl1, hl2⟩ := hlf
      obtain ⟨rb, ro, hra, hrz, hrc⟩ := hr5 (by intro e; have := RG_len (gs := gs) k; rw [e] at this; simp at this; omega)
      subst hra
      have ecr := hrc i _ (getD_of (d := 0) (by rw [RG_len]; exact hin)) 0 (by omega)
      rw [RG_at hin, Nat.mul_one, Nat.add_zero] at ecr
      have hii : (i : Int) < k := by omega
      have hi0 : (0 : Int) ≤ i := by omega
      have hlw := left_any LI ((i : Int) + 1) (wf_of_has ⟨by show (-9223372036854775808 : Int) ≤ (i : Int) + 1; omega, by show (i : Int) + 1 ≤ 9223372036854775807; omega⟩)
      rw [hl0] at hlw
      have HB := Lib.hid hbr
      have HLF := Lib.hid (fun w' h => left_any (w := w') (v := .slice la k lc) (L := LG gs pvs k) h ((i : Int) + 1) (wf_of_has ⟨by show (-9223372036854775808 : Int) ≤ (i : Int) + 1; omega, by show (i : Int) + 1 ≤ 9223372036854775807; omega⟩))
      have HLI := Lib.hid LI
      have HL0 := Lib.hid hl0
      clear hrc hr5 RR RLL hps hap ownL ownR hbr hlw LI HOK hl0 HP HH
      generalize lefS (LG gs pvs k) ((i : Int) + 1) = S at *
      generalize rG gs k i = r at *
      obtain ⟨slo, shi⟩ := S
      dsimp only at *
      have hd1 : decide (slo ≤ r) = true := decide_eq_true hl1
      have hd2 : decide (r ≤ shi) = true := decide_eq_true hl2
      go_wp2_with fail
      refine hck.mono ?_
      rintro e w1 ⟨rfl, hb1⟩
      have hlf := HLF.out w1 (HLI.out.step hb1)
      rw [HL0.out] at hlf
      clear hck
      go_wp2_with fail
      refine hlf.mono ?_
      rintro e w2 ⟨rfl, hb2⟩
      have hb3 := hb1.trans (hb2.mono hb1.size)
      have hb4 := HB.out.trans (hb3.mono HB.out.size)
      have ec2 := (hb3.cell (p := ⟨rb, ro + i, none⟩) hrz).trans ecr
      have hz3 := hb3.size
      clear hlf hb1 hb2 ecr
      go_wp2_with fail
      have hb5 : Below w2.heap.size w2 (w2.alloc (.cells #[.int .i64 slo, .int .i64 shi] 29)) := by repeat (first | (with_reducible exact Below.refl _ _) | (with_reducible assumption) | (with_reducible refine Below.drew ?_) | ((with_reducible refine Below.alloc ?_ ?_ _); rotate_left; (first | (with_reducible exact Nat.zero_le _) | (with_reducible exact Nat.le_refl _) | omega | (dsimp only; omega) | (simp only [World.size_alloc, World.size_setCell, World.size_drew]; omega))) | ((with_reducible refine Below.setCell ?_ ?_ _); rotate_left; (first | (with_reducible exact Nat.zero_le _) | (with_reducible exact Nat.le_refl _) | omega | (dsimp only; omega) | (simp only [World.size_alloc, World.size_setCell, World.size_drew]; omega))))
      have BS := Blk.new w2 29 #[.int .i64 slo, .int .i64 shi]
      have ec3 := (hb5.cell (p := ⟨rb, ro + i, none⟩) (by show rb < _; omega)).trans ec2
      have hb6 := hb4.trans (hb5.mono hb4.size)
      generalize w2.alloc (.cells #[.int .i64 slo, .int .i64 shi] 29) = w3 at *
      have hrz3 : rb < w3.heap.size := by have := hb5.size; omega
      have cS : ∀ y : BW w3, ∀ j, y.w.cell? ⟨w2.heap.size, j, none⟩ = #[.int .i64 slo, .int .i64 shi][j]? := fun y j => (BS.bw y).cell j
      have cR : ∀ y : BW w3, y.w.cell? ⟨rb, ro + i, none⟩ = some (.int .i64 r) := fun y => (y.cell hrz3).trans ec3
      clear BS ec3 ec2
      refine wp_region_calm (by kernel_rfl) (by kernel_rfl) ?_
      repeat (go_big_quiet_step (fail))
      go_big_quiet_want; go_big_quiet_op; go_big_quiet_call (exact calls_bw ha _)
      repeat (go_big_quiet_step (fail))
      first | refine wpQuiet_nil ?_ | skip
      intro w4 hb7
      go_wp2_with fail
      go_ret
      exact ⟨by first | rfl | simp, hb6.trans (hb7.mono hb6.size)⟩

end Go.Proofs.Ytpafcdigcpbbeaa
