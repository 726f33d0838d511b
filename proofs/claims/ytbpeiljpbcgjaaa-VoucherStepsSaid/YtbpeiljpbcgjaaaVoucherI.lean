/- Contract: the reference's Redeem, where it redeems. -/
import Derived.Test.YtbpeiljpbcgjaaaVoucherH
import Derived.Deep.RegionHeld3
namespace Go.Proofs.Ytbpeiljpbcgjaaa
set_option linter.unusedVariables false
set_option linter.unusedSimpArgs false
open Go.RowKit


set_option maxHeartbeats 1000000 in
theorem rredeem_ok {w : World} {v vs rs : Value} {B : Bk} (hB : RHolds w v B vs rs) (hok : BkOk B) (n t : Int) (hne : redE B n t = 0) :
    Calls Try.prog 24 #[v, .int .i64 n, .int .i64 t] w (rredOut w B vs rs n t) := by
  obtain ⟨rfl, hv, hr⟩ := hB
  have hR : redB B n t = { B with es := B.es.set (n - 1).toNat { entAt B n with red := true }, now := t } := by unfold redB; rw [if_pos hne]
  have hV : redV B n t = (entAt B n).amt := by unfold redV; rw [if_pos hne]
  obtain ⟨hm, h1, h2, h3, h4⟩ := redE_ok hne
  obtain ⟨t1, t2, t3⟩ := momE_ok hm
  have hn := hok.len
  have hrm : (decide (0 ≤ t) && decide (t ≤ 3155759999)) = true := by simp; omega
  obtain ⟨k, rfl⟩ : ∃ k : Nat, n = k + 1 := ⟨(n - 1).toNat, by omega⟩
  have hk : k < B.es.length := by omega
  obtain ⟨g, cap, cur, rfl, _, hgb, hcap, hcm, hcs, hcur⟩ := ownsRow_some hv (by omega)
  obtain ⟨g', cap', cur', rfl, _, hgb', hcap', hcm', hcs', hcur'⟩ := ownsRow_some hr (by omega)
  have lG := hgb.lt
  have lG' := hgb'.lt
  obtain ⟨x, hx⟩ : ∃ x, B.es[k]? = some x := ⟨_, List.getElem?_eq_getElem hk⟩
  have hxa : entAt B ((k : Int) + 1) = x := by
    unfold entAt
    rw [List.getD_eq_getElem?_getD, show ((k : Int) + 1 - 1).toNat = k by omega, hx]; rfl
  rw [hxa] at hR hV h3 h4
  rw [show ((k : Int) + 1 - 1).toNat = k by omega] at hR
  have hout : ∀ (w' : World) (e : Ending), (∃ v vs rs, e = .returned (.tuple #[v, .int .i64 x.amt, .int .i64 0]) ∧ RHolds w' v { B with es := B.es.set k { x with red := true }, now := t } vs rs ∧ Below w.heap.size w w' ∧ Fresh w (.slice (some ⟨g, 0, none⟩) B.es.length cap) vs ∧ Fresh w (.slice (some ⟨g', 0, none⟩) B.es.length cap') rs) → rredOut w B (.slice (some ⟨g, 0, none⟩) B.es.length cap) (.slice (some ⟨g', 0, none⟩) B.es.length cap') (k + 1) t e w' := by
    intro w' e h
    unfold rredOut
    rw [hR, hV, hne]
    exact h
  have e0 : World.cell? w ⟨g, k * 5, none⟩ = some (.int .i64 (x).num) := rowCell encV_len hgb hcur hx 0 (by omega); have e1 : World.cell? w ⟨g, k * 5 + 1, none⟩ = some (.int .i64 (x).mach) := rowCell encV_len hgb hcur hx 1 (by omega); have e2 : World.cell? w ⟨g, k * 5 + 2, none⟩ = some (.int .i64 (x).amt) := rowCell encV_len hgb hcur hx 2 (by omega); have e3 : World.cell? w ⟨g, k * 5 + 3, none⟩ = some (.int .i64 (x).at_) := rowCell encV_len hgb hcur hx 3 (by omega); have e4 : World.cell? w ⟨g, k * 5 + 4, none⟩ = some (.int .i64 (x).til) := rowCell encV_len hgb hcur hx 4 (by omega)
  have r0 : World.cell? w ⟨g', k, none⟩ = some (.bool (x).red) := (by have hq := rowCell encR_len hgb' hcur' hx 0 (by omega); rwa [Nat.mul_one, Nat.add_zero] at hq)
  have hi1 : (0 : Int) ≤ k := by omega
  have hi2 : (k : Int) < B.es.length := by omega
  have hi3 : ¬ ((k : Int) + 1 < 1) := by omega
  have hi4 : ¬ ((k : Int) + 1 > B.es.length) := by omega
  have hi5 : ¬ t < B.now := by omega
  have hi6 : ¬ t ≥ x.til := by omega
  clear hR hV h1 h2 h4 hm hne
  have HO := Lib.hid hout
  clear hout
  obtain ⟨i, hi, hz, hsi, hby⟩ : ∃ i, Try.prog.info? 4 = some i ∧ i.zero = some (.bool false) ∧ i.size = 1 ∧ i.bytes = 1 := info_of (by kernel_rfl)
  have hcell : ∀ W : World, Below w.heap.size w W → ∀ j u, (rowOf encR B.es)[j]? = some u → W.cell? ((⟨g', 0, none⟩ : Addr).add j) = some u := by
    intro W hW j u hu
    exact (ownsRow_step hr hW).cells (g := g') rfl j u hu
  have hlen : (rowOf encR B.es).length = B.es.length * 1 := rowOf_length encR_len B.es
  have hone : ∀ u ∈ rowOf encR B.es, u.oneCell' = true := by
    intro u hu
    unfold rowOf at hu
    obtain ⟨e, _, he⟩ := List.mem_flatMap.1 hu
    simp only [encR, List.mem_singleton] at he
    rw [he]; rfl
  have B3 := Blk.new (w.alloc (.cells #[.int .i64 B.valid, .int .i64 B.now, .slice (some ⟨g, 0, none⟩) B.es.length cap, .slice (some ⟨g', 0, none⟩) B.es.length cap'] 29)) 29 #[.int .i64 0, .int .i64 0, .slice none 0 0, .slice none 0 0]
  have B2 := Blk.new w 29 #[.int .i64 B.valid, .int .i64 B.now, .slice (some ⟨g, 0, none⟩) B.es.length cap, .slice (some ⟨g', 0, none⟩) B.es.length cap']
  have hown0 : ∀ W : World, W.heap.size = w.heap.size + 2 → (W.alloc (.cells #[] 4)).ownsRow w.heap.size 4 1 (.slice (some ⟨w.heap.size + 2, 0, none⟩) 0 0) 0 [] := by
    intro W hW
    have := World.ownsRow_made (e := 4) (base := w.heap.size) (size := 1) W #[] 0 (by omega) (by simp [maxLen]) (by simp)
    rwa [hW] at this
  go_enter Try.func24, Try.ntmps24
  go_wp2_with (first | (go_at_call 32; refine (rmoment_any _ _).mono ?_; rintro e w' ⟨rfl, rfl⟩; rw [hrm]) | (at_builtin; refine wpList_append_lies _ rfl _ _ _ rfl w.heap.size 4 i _ 1 1 Try.underlying27 hi hz hsi hby rfl (by omega) (.slice (some ⟨w.heap.size + 2, 0, none⟩) 0 0) 0 [] rfl (hown0 _ (by simp)) ⟨g', 0, none⟩ B.es.length cap' (rowOf encR B.es) rfl hlen (hcell _ (by ((repeat (first | exact Below.refl _ _ | refine Below.drew ?_ | refine Below.alloc ?_ (by first | exact Nat.le_refl _ | omega | (simp only [World.size_alloc, World.size_drew, World.size_setCell]; omega)) _)); first | (fail_if_success (focus skip)) | fail))) hone (by omega) (by simp only [maxLen]; omega) (by omega) (by simp; omega) (w.heap.size + 3) (by simp) ?_))
  intro g1 cap1 w1 hown1 hgrow hat hlt
  have hk2 := Blk.grown (B2.step (by ((repeat (first | exact Below.refl _ _ | refine Below.drew ?_ | refine Below.alloc ?_ (by first | exact Nat.le_refl _ | omega | (simp only [World.size_alloc, World.size_drew, World.size_setCell]; omega)) _)); first | (fail_if_success (focus skip)) | fail))) hgrow (by simp [Value.ownBlock])
  have hk3 := Blk.grown (B3.step (by ((repeat (first | exact Below.refl _ _ | refine Below.drew ?_ | refine Below.alloc ?_ (by first | exact Nat.le_refl _ | omega | (simp only [World.size_alloc, World.size_drew, World.size_setCell]; omega)) _)); first | (fail_if_success (focus skip)) | fail))) hgrow (by simp [Value.ownBlock])
  have hkg := Blk.grown (hgb.step (by ((repeat (first | exact Below.refl _ _ | refine Below.drew ?_ | refine Below.alloc ?_ (by first | exact Nat.le_refl _ | omega | (simp only [World.size_alloc, World.size_drew, World.size_setCell]; omega)) _)); first | (fail_if_success (focus skip)) | fail))) hgrow (by simp [Value.ownBlock]; omega)
  obtain ⟨g1', cap1', cur1, he1, hg1b, hb1, hcap1, hcm1, hcs1, hcur1⟩ := ownsRow_some hown1 (by omega)
  cases he1
  have hb1w : w.heap.size + 1 < g1 := by
    rcases hat with h | h
    · have : w.heap.size + 2 = g1 := by simpa [Value.ownBlock] using h
      omega
    · omega
  clear hat
  have c2 := hk2.cell
  have l2 := hk2.lt
  have f2 := hk2.free
  have fb := hb1.free
  have lb := hb1.lt
  have q0 : w1.cell? ⟨g1, k, none⟩ = some (.bool x.red) := by
    have hq := rowCell encR_len hb1 hcur1 hx 0 (by omega)
    rwa [Nat.mul_one, Nat.add_zero] at hq
  have Z2 : Blk (((w1.setCell ⟨w.heap.size, 3, none⟩ (.slice (some ⟨g1, 0, none⟩) B.es.length cap1)).setCell ⟨g1, k, none⟩ (.bool true)).setCell ⟨w.heap.size, 1, none⟩ (.int .i64 t)) w.heap.size 29 #[.int .i64 B.valid, .int .i64 t, .slice (some ⟨g, 0, none⟩) B.es.length cap, .slice (some ⟨g1, 0, none⟩) B.es.length cap1] := ((hk2.put 3 (.slice (some ⟨g1, 0, none⟩) B.es.length cap1)).far (p := ⟨g1, k, none⟩) (by simp; omega) (.bool true)).put 1 (.int .i64 t)
  have Z3 : Blk (((w1.setCell ⟨w.heap.size, 3, none⟩ (.slice (some ⟨g1, 0, none⟩) B.es.length cap1)).setCell ⟨g1, k, none⟩ (.bool true)).setCell ⟨w.heap.size, 1, none⟩ (.int .i64 t)) (w.heap.size + 1) 29 #[.int .i64 0, .int .i64 0, .slice none 0 0, .slice none 0 0] := by
    have := ((hk3.far (p := ⟨w.heap.size, 3, none⟩) (by simp) (.slice (some ⟨g1, 0, none⟩) B.es.length cap1)).far (p := ⟨g1, k, none⟩) (by simp; omega) (.bool true)).far (p := ⟨w.heap.size, 1, none⟩) (by simp) (.int .i64 t)
    simpa using this
  have Zg : Blk (((w1.setCell ⟨w.heap.size, 3, none⟩ (.slice (some ⟨g1, 0, none⟩) B.es.length cap1)).setCell ⟨g1, k, none⟩ (.bool true)).setCell ⟨w.heap.size, 1, none⟩ (.int .i64 t)) g 38 cur := ((hkg.far (p := ⟨w.heap.size, 3, none⟩) (by simp; omega) (.slice (some ⟨g1, 0, none⟩) B.es.length cap1)).far (p := ⟨g1, k, none⟩) (by simp; omega) (.bool true)).far (p := ⟨w.heap.size, 1, none⟩) (by simp; omega) (.int .i64 t)
  have ZB : Below w.heap.size w (((w1.setCell ⟨w.heap.size, 3, none⟩ (.slice (some ⟨g1, 0, none⟩) B.es.length cap1)).setCell ⟨g1, k, none⟩ (.bool true)).setCell ⟨w.heap.size, 1, none⟩ (.int .i64 t)) := by
    have hb : Below w.heap.size w w1 := Below.grown (w := _) (by ((repeat (first | exact Below.refl _ _ | refine Below.drew ?_ | refine Below.alloc ?_ (by first | exact Nat.le_refl _ | omega | (simp only [World.size_alloc, World.size_drew, World.size_setCell]; omega)) _)); first | (fail_if_success (focus skip)) | fail)) hgrow (by simp; omega) (fun j hj => by simp [Value.ownBlock] at hj; omega)
    exact ((hb.setCell (p := ⟨w.heap.size, 3, none⟩) (Nat.le_refl _) _).setCell (p := ⟨g1, k, none⟩) (by simp; omega) _).setCell (p := ⟨w.heap.size, 1, none⟩) (Nat.le_refl _) _
  have Zr : World.ownsRow (((w1.setCell ⟨w.heap.size, 3, none⟩ (.slice (some ⟨g1, 0, none⟩) B.es.length cap1)).setCell ⟨g1, k, none⟩ (.bool true)).setCell ⟨w.heap.size, 1, none⟩ (.int .i64 t)) w.heap.size 4 1 (.slice (some ⟨g1, 0, none⟩) B.es.length cap1) B.es.length (rowOf encR (B.es.set k { x with red := true })) := by
    have h1 := ownsRow_setCell_other (a := ⟨w.heap.size, 3, none⟩) hown1 (by simp [Value.ownBlock]; omega) (.slice (some ⟨g1, 0, none⟩) B.es.length cap1)
    have h2 := (h1.stored k (.bool true)).1
    have h3 := ownsRow_setCell_other (a := ⟨w.heap.size, 1, none⟩) h2 (by simp [Value.ownBlock]; omega) (.int .i64 t)
    have h4 := rowOf_set (k := 1) encR_len 0 (.bool true) (by omega) B.es k x { x with red := true } hx (by rfl)
    rw [Nat.mul_one, Nat.add_zero] at h4
    rwa [h4] at h3
  have Zx := rowCell encV_len Zg hcur hx 2 (by omega)
  go_wp2_with fail
  have HZ := Lib.hid hgrow
  clear hgrow c2 l2 f2 fb lb q0 hb1 hcur1 hcs1 hcap1 hcm1 hown1 hk2 hk3 hkg
  generalize (((w1.setCell ⟨w.heap.size, 3, none⟩ (.slice (some ⟨g1, 0, none⟩) B.es.length cap1)).setCell ⟨g1, k, none⟩ (.bool true)).setCell ⟨w.heap.size, 1, none⟩ (.int .i64 t)) = W at Z2 Z3 Zg ZB Zr Zx ⊢
  replace Zx : W.cell? ⟨g, k * 5 + 2, none⟩ = some (.int .i64 x.amt) := Zx
  have a0 : W.cell? ⟨w.heap.size, 0, none⟩ = some (.int .i64 B.valid) := Z2.cell 0
  have a1 : W.cell? ⟨w.heap.size, 1, none⟩ = some (.int .i64 t) := Z2.cell 1
  have a2 : W.cell? ⟨w.heap.size, 2, none⟩ = some (.slice (some ⟨g, 0, none⟩) B.es.length cap) := Z2.cell 2
  have a3 : W.cell? ⟨w.heap.size, 3, none⟩ = some (.slice (some ⟨g1, 0, none⟩) B.es.length cap1) := Z2.cell 3
  have c3 := Z3.cell
  have f3 := Z3.free
  have l3 := Z3.lt
  have hwk : IntKind.i64.wrap (k : Int) = k := wrapI _ (by omega)
  have nn : ¬ g = w.heap.size + 1 := by omega
  have nn' : ¬ w.heap.size + 1 = g := by omega
  go_region_held3 (fun w' => w'.cell? ⟨w.heap.size, 0, none⟩ = some (.int .i64 B.valid) ∧ w'.cell? ⟨w.heap.size, 1, none⟩ = some (.int .i64 t) ∧ w'.cell? ⟨w.heap.size, 2, none⟩ = some (.slice (some ⟨g, 0, none⟩) B.es.length cap) ∧
    w'.cell? ⟨w.heap.size, 3, none⟩ = some (.slice (some ⟨g1, 0, none⟩) B.es.length cap1) ∧ w'.cell? ⟨g, k * 5 + 2, none⟩ = some (.int .i64 x.amt)) (go_keep) (fail)
  all_goals (
    go_wp2_with fail
    refine bodyPost_ret (v := .tuple #[.agg #[.int .i64 B.valid, .int .i64 t, .slice (some ⟨g, 0, none⟩) B.es.length cap, .slice (some ⟨g1, 0, none⟩) B.es.length cap1], .int .i64 x.amt, .int .i64 0]) (by simp only [results, Try.results24]; go_simp) rfl (HO.out _ _ ⟨_, _, _, rfl, ⟨rfl, ?_, ?_⟩, ?_, .inl rfl, .inr fun j hj => by simp only [Value.ownBlock, Option.some.injEq] at hj; omega⟩)
    · have hsame : rowOf encV (B.es.set k { x with red := true }) = rowOf encV B.es := rowOf_same encV B.es k x _ hx rfl
      show World.ownsRow _ 0 38 5 _ (B.es.set k { x with red := true }).length (rowOf encV (B.es.set k { x with red := true }))
      rw [hsame, List.length_set]
      exact ownsRow_step hv (((((ZB.setCell (by simp) _).setCell (by simp) _).setCell (by simp) _).setCell (by simp) _).drew)
    · show World.ownsRow _ 0 4 1 _ (B.es.set k { x with red := true }).length (rowOf encR (B.es.set k { x with red := true }))
      rw [List.length_set]
      exact ownsRow_low (ownsRow_frT Zr (T := fun t => t == 29) (B := 0) ((((((FrT.refl 0 _ W).setOld (p := ⟨w.heap.size + 1, 0, none⟩) (Nat.zero_le _) Z3 rfl _).setOld (p := ⟨w.heap.size + 1, 1, none⟩) (Nat.zero_le _) Z3 rfl _).setOld (p := ⟨w.heap.size + 1, 2, none⟩) (Nat.zero_le _) Z3 rfl _).setOld (p := ⟨w.heap.size + 1, 3, none⟩) (Nat.zero_le _) Z3 rfl _).drew) rfl) (Nat.zero_le _)
    · exact ((((ZB.setCell (by simp) _).setCell (by simp) _).setCell (by simp) _).setCell (by simp) _).drew)

end Go.Proofs.Ytbpeiljpbcgjaaa
