/- Opening what the laws of balances get; the walks of BalanceCheck, BalanceStock, BalanceHolds. -/
import Derived.Test.YthaoclocachbaaaBalM
import Derived.Test.YthaoclocachbaaaBalD
import Derived.Test.YthaoclocachbaaaBalL
namespace Go.Proofs.Ythaoclocachbaaa
set_option linter.unusedVariables false
set_option linter.unusedSimpArgs false
open Go.RowKit Go.ChangeShapes Go.WideShapes Go.Deep

def decP (x : List Int) : Sp := ⟨x.getD 0 0, x.getD 1 0⟩
theorem decP_enc (x : List Int) (h : x.length = 2) : encP (decP x) = x.map (Value.int .i64) := by
  obtain ⟨a, b, rfl⟩ := len2 h
  rfl
def decR (x : List Int) : Tr := ⟨x.getD 0 0, x.getD 1 0, ⟨x.getD 2 0, x.getD 3 0⟩⟩
theorem decR_enc (x : List Int) (h : x.length = 4) : encR (decR x) = x.map (Value.int .i64) := by
  obtain ⟨a, b, c, d, rfl⟩ := len4 h
  rfl
def decI (x : List Int) : Int := x.getD 0 0
def encI (x : Int) : List Value := [.int .i64 x]
theorem decI_enc (x : List Int) (h : x.length = 1) : encI (decI x) = x.map (Value.int .i64) := by
  match x, h with
  | [a], _ => rfl

section
variable {H : Type} {enc : TypeId × Value → H} {P : Program} {w : World}
/-- A struct that came by value: its cells, one by one. -/
theorem open_fields {r : Reach} {b0 : Nat} {t : TypeId} {fs : Array Field} {ts : List TypeId} {v : Value} {d : DataW H} {p : List MemPlace} (hu : P.underlying t = some (.struct fs)) (hts : P.cellTypes P.depth t = some ts) (hC : P.cellsOf t = ts.length)
    (hv : Value.okWide P w r b0 t v) (h : DataW.Trod enc P w 0 (fun _ => true) true t v d p) :
    ∃ cs : List Value, v = .agg cs.toArray ∧ cs.length = ts.length ∧ ∀ (i : Nat) (f : Field), fs[i]? = some f → P.cellsOf f.type = 1 → ts[f.offset]? = some f.type →
      ∃ x, cs[f.offset]? = some x ∧ Cell.okWide P w r b0 f.type x ∧ ∃ fuel q, DataW.trod enc P w 0 (fun _ => true) true fuel f.type [x] = some q := by
  unfold Value.okWide at hv
  rw [hu] at hv
  obtain ⟨cs, rfl, hsz, ts', hts', _, hc⟩ := hv
  rw [hts] at hts'
  injection hts' with hts'
  subst hts'
  obtain ⟨fuel, hf⟩ := h
  obtain ⟨xs, m, _, _, hl, hxl, hfield⟩ := DataW.trod_struct hu hf
  refine ⟨cs.toList, by simp, by rw [← hC, ← hsz]; simp, fun i f hi h1 hto => ?_⟩
  have ho : f.offset < ts.length := (List.getElem?_eq_some_iff.1 hto).1
  have hlt : f.offset < cs.size := by rw [hsz, hC]; exact ho
  have hx : cs.toList[f.offset]? = some cs[f.offset] := by simp [hlt]
  obtain ⟨u, hu', hok⟩ := hc f.offset cs[f.offset] (by simp [hlt])
  rw [Nat.mod_eq_of_lt ho, hto] at hu'
  injection hu' with hu'
  subst hu'
  refine ⟨_, hx, hok, m, ?_⟩
  have hq := hfield i f hi
  rw [h1] at hq
  have hcells : (Value.agg cs).cells.toList = cs.toList := rfl
  rw [hcells] at hq
  have hd : (cs.toList.drop f.offset).take 1 = [cs[f.offset]] := by
    rw [List.drop_eq_getElem_cons (by simpa using hlt)]
    simp
  rw [hd] at hq
  have hi' : i < fs.size := (Array.getElem?_eq_some_iff.1 hi).1
  rw [List.getElem?_eq_getElem (by omega)] at hq
  exact ⟨_, hq⟩
theorem open_rowfield {α : Type} {k : IntKind} {r : Reach} {b0 : Nat} {t e : TypeId} {x : Value} {C : Nat} (ht : P.underlying t = some (.slice e)) (hC : P.cellsOf e = C) (hpos : 0 < C) (n : Nat) (hflat : flatB P k n e = true) (dec : List Int → α) (f : α → List Value)
    (hdec : ∀ x : List Int, x.length = C → f (dec x) = x.map (Value.int k)) (hv : Cell.okWide P w r b0 t x) (h : ∃ fuel q, DataW.trod enc P w 0 (fun _ => true) true fuel t [x] = some q) : ∃ l : List α, RowIn w x C f l := by
  have hv' : Value.okWide P w r b0 t x := by unfold Value.okWide; rw [ht]; exact hv
  obtain ⟨a0, len, cap, rfl⟩ := okWide_slice ht hv'
  obtain ⟨fuel, ⟨d, p⟩, hq⟩ := h
  obtain ⟨l, hl, _⟩ := open_rowin (d := d) (p := p) ht hC hpos n hflat dec f hdec hv' ⟨fuel, by simpa [Value.cells] using hq⟩
  exact ⟨l, hl⟩
end
theorem open_bal {H : Type} {enc : TypeId × Value → H} {w : World} {r : Reach} {b0 : Nat} {v : Value} {d : DataW H} {p : List MemPlace} (hv : Value.okWide Try.prog w r b0 25 v) (h : DataW.Trod enc Try.prog w 0 (fun _ => true) true 25 v d p) :
    ∃ n vo vl vc o l c, v = .agg #[.int .i64 n, vo, vl, vc] ∧ RowIn w vo 2 encP o ∧ RowIn w vl 4 encR l ∧ RowIn w vc 2 encP c := by
  obtain ⟨cs, rfl, hlen, hf⟩ := open_fields (ts := [3, 22, 23, 22]) Try.underlying25 (by kernel_rfl) (by kernel_rfl) hv h
  obtain ⟨x0, x1, x2, x3, rfl⟩ := len4 hlen
  obtain ⟨y0, e0, k0, _⟩ := hf 0 _ rfl (by kernel_rfl) rfl
  obtain ⟨y1, e1, k1, q1⟩ := hf 1 _ rfl (by kernel_rfl) rfl
  obtain ⟨y2, e2, k2, q2⟩ := hf 2 _ rfl (by kernel_rfl) rfl
  obtain ⟨y3, e3, k3, q3⟩ := hf 3 _ rfl (by kernel_rfl) rfl
  obtain rfl : x0 = y0 := Option.some.inj e0
  obtain rfl : x1 = y1 := Option.some.inj e1
  obtain rfl : x2 = y2 := Option.some.inj e2
  obtain rfl : x3 = y3 := Option.some.inj e3
  obtain ⟨o, ho⟩ := open_rowfield Try.underlying22 (show Try.prog.cellsOf 41 = 2 by kernel_rfl) (by decide) 6 (by kernel_rfl) decP encP decP_enc k1 q1
  obtain ⟨l, hl⟩ := open_rowfield Try.underlying23 (show Try.prog.cellsOf 43 = 4 by kernel_rfl) (by decide) 6 (by kernel_rfl) decR encR decR_enc k2 q2
  obtain ⟨c, hc⟩ := open_rowfield Try.underlying22 (show Try.prog.cellsOf 41 = 2 by kernel_rfl) (by decide) 6 (by kernel_rfl) decP encP decP_enc k3 q3
  obtain ⟨n, rfl, _⟩ := okWide_int1 (t := 3) (P := Try.prog) (w := w) (r := r) (base := b0) (v := x0) (by unfold Value.okWide; rw [Try.underlying3]; exact k0) Try.underlying3
  exact ⟨n, x1, x2, x3, o, l, c, rfl, ho, hl, hc⟩

set_option maxHeartbeats 4000000 in
theorem law_check {w : World} {vo vl : Value} (n : Int) {o : List Sp} {l : List Tr} (ho : RowIn w vo 2 encP o) (hl : RowIn w vl 4 encR l) : Calls Try.prog 4 #[.int .i64 n, vo, vl] w fun e w' => e = .returned (.bool true) ∧ Below w.heap.size w w' := by
  go_enter Try.func4, Try.ntmps4
  go_wp2_with fail
  refine (bcheck_any n ho hl).mono ?_
  rintro e w1 ⟨rfl, hb1⟩
  go_wp2_with fail
  refine (rcheckB_any n (ho.step hb1) (hl.step hb1)).mono ?_
  rintro e w2 ⟨rfl, hb2⟩
  go_wp2_with fail
  refine (example_any _).mono ?_
  rintro e w3 ⟨rfl, hb3⟩
  go_wp2_with fail
  go_ret
  exact ⟨by simp, hb1.trans ((hb2.mono hb1.size).trans (hb3.mono (Nat.le_trans hb1.size hb2.size)))⟩

set_option maxHeartbeats 4000000 in
theorem law_stock {w : World} {vo vl : Value} (n : Int) {o : List Sp} {l : List Tr} (ho : RowIn w vo 2 encP o) (hl : RowIn w vl 4 encR l) : Calls Try.prog 5 #[.int .i64 n, vo, vl] w fun e w' => e = .returned (.bool true) ∧ Below w.heap.size w w' := by
  go_enter Try.func5, Try.ntmps5
  go_wp2_with fail
  refine (rstock_any n ho hl).mono ?_
  rintro e w1 ⟨v1, rfl, hr1, hb1⟩
  go_wp2_with fail
  refine (stock_any n (ho.step hb1) (hl.step hb1)).mono ?_
  rintro e w2 ⟨v2, rfl, hr2, hb2⟩
  replace hr1 := hr1.step hb2
  replace hb2 := hb1.trans (hb2.mono hb1.size)
  generalize stkE n o l = E at *
  generalize stkV n o l = V at *
  go_wp2_with fail
  refine (same_any hr2 hr1).mono ?_
  rintro e w3 ⟨rfl, hb3⟩
  replace hb3 := hb2.trans (hb3.mono hb2.size)
  go_wp2_with fail
  refine (example_any _).mono ?_
  rintro e w4 ⟨rfl, hb4⟩
  go_wp2_with fail
  go_ret
  exact ⟨by simp, hb3.trans (hb4.mono hb3.size)⟩

set_option maxRecDepth 100000 in
set_option maxHeartbeats 4000000 in
theorem law_holds {w : World} {vo vl vc vm : Value} (n : Int) {o : List Sp} {l : List Tr} {c : List Sp} {ms : List Int} (ho : RowIn w vo 2 encP o) (hl : RowIn w vl 4 encR l) (hc : RowIn w vc 2 encP c) (hm : RowIn w vm 1 (fun x : Int => [.int .i64 x]) ms) :
    Calls Try.prog 7 #[.agg #[.int .i64 n, vo, vl, vc], vm] w fun e w' => e = .returned (.bool true) ∧ Below w.heap.size w w' := by
  have hb0 : Below w.heap.size w (w.alloc (.cells #[.int .i64 n, vo, vl, vc] 25)) := by repeat (first | (with_reducible exact Below.refl _ _) | (with_reducible assumption) | (with_reducible refine Below.drew ?_) | ((with_reducible refine Below.alloc ?_ ?_ _); rotate_left; (first | (with_reducible exact Nat.zero_le _) | (with_reducible exact Nat.le_refl _) | omega | (dsimp only; omega) | (simp only [World.size_alloc, World.size_setCell, World.size_drew]; omega))) | ((with_reducible refine Below.setCell ?_ ?_ _); rotate_left; (first | (with_reducible exact Nat.zero_le _) | (with_reducible exact Nat.le_refl _) | omega | (dsimp only; omega) | (simp only [World.size_alloc, World.size_setCell, World.size_drew]; omega))))
  have BX := Blk.new w 25 #[.int .i64 n, vo, vl, vc]
  replace ho := ho.step hb0
  replace hl := hl.step hb0
  replace hc := hc.step hb0
  replace hm := hm.step hb0
  go_enter Try.func7, Try.ntmps7
  go_wp2_with fail
  generalize w.alloc (.cells #[.int .i64 n, vo, vl, vc] 25) = w1 at *
  have c2 : ∀ y : BW w1, ∀ j, y.w.cell? ⟨w.heap.size, j, none⟩ = #[.int .i64 n, vo, vl, vc][j]? := fun y => (BX.bw y).cell
  have h1 : ∀ y : BW w1, Calls Try.prog 22 #[.int .i64 n, vo, vl, vc, vm] y.w fun e w' => e = .returned (.bool (holdsB n o l c ms)) ∧ ∃ z : BW w1, w' = z.w := fun y =>
    (holds_any n (ho.step y.h) (hl.step y.h) (hc.step y.h) (hm.step y.h)).mono fun e w' ⟨he, hb⟩ => ⟨he, ⟨w', y.h.trans (hb.mono y.h.size)⟩, rfl⟩
  have h2 : ∀ y : BW w1, Calls Try.prog 15 #[.int .i64 n, vo, vl, vc, vm] y.w fun e w' => e = .returned (.bool (holdsB n o l c ms)) ∧ ∃ z : BW w1, w' = z.w := fun y =>
    (rholds_any n (ho.step y.h) (hl.step y.h) (hc.step y.h) (hm.step y.h)).mono fun e w' ⟨he, hb⟩ => ⟨he, ⟨w', y.h.trans (hb.mono y.h.size)⟩, rfl⟩
  generalize holdsB n o l c ms = B at *
  refine wp_region_calm (by kernel_rfl) (by kernel_rfl) ?_
  repeat (go_big_quiet_step (fail))
  go_big_quiet_want; go_big_quiet_op; go_big_quiet_call (exact h1 _)
  repeat (go_big_quiet_step (fail))
  go_big_quiet_want; go_big_quiet_op; go_big_quiet_call (exact h2 _)
  repeat (go_big_quiet_step (fail))
  go_big_quiet_want; go_big_quiet_op; go_big_quiet_call (exact calls_bw example_any _)
  repeat (go_big_quiet_step (fail))
  first | refine wpQuiet_nil ?_ | skip
  intro w2 hb2
  go_wp2_with fail
  go_ret
  exact ⟨by simp, hb0.trans (hb2.mono hb0.size)⟩

end Go.Proofs.Ythaoclocachbaaa
