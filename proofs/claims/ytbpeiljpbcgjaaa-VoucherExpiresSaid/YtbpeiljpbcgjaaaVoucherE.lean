/- Contract: Issue of a book. -/
import Derived.Test.YtbpeiljpbcgjaaaVoucherD
import Derived.Deep.RegionHeld3
import Derived.Deep.RegionLaw
namespace Go.Proofs.Ytbpeiljpbcgjaaa
set_option linter.unusedVariables false
set_option linter.unusedSimpArgs false
open Go.RowKit


theorem issue_no {w : World} {base b : Nat} {sv : Value} {B : Bk} (hB : Holds w base b sv B) (hok : BkOk B) (m a t : Int) (hn : issE B m a t ≠ 0) :
    Calls Try.prog 22 #[.pointer (some ⟨b, 0, none⟩), .int .i64 m, .int .i64 a, .int .i64 t] w fun e w' => e = .returned (.tuple #[.agg (encV (ent0)).toArray, .int .i64 (issE B m a t)]) ∧ Below w.heap.size w w' := by
  have hE : issE B m a t = if m < 0 ∨ m ≥ 8 then 7 else if a < 1 ∨ a > 1000000 then 1 else if momE B t ≠ 0 then momE B t else if B.es.length ≥ 512 then 8 else 0 := rfl
  generalize issE B m a t = E at hn hE ⊢
  have hB1 := hB.step (w' := w.alloc (.cells #[.int .i64 0, .int .i64 0, .int .i64 0, .int .i64 0, .int .i64 0] 38)) ((Below.refl _ _).alloc (Nat.le_refl _) _)
  have c0 := hB.blk.cell
  have l0 := hB.blk.lt
  have hl := hok.len
  by_cases h1 : m < 0 ∨ m ≥ 8
  · rw [if_pos h1] at hE
    subst hE
    by_cases h1a : m < 0
    · go_enter Try.func22, Try.ntmps22
      go_wp2_with fail
      refine bodyPost_ret (v := .tuple #[.agg (encV (ent0)).toArray, .int .i64 (7)]) (by simp only [results, Try.results22]; go_simp; rfl) rfl ⟨rfl, ?_⟩
      (repeat (first | exact Below.refl _ _ | refine Below.setCell ?_ (by first | omega | (simp; done) | (simp; omega) | (simp only [World.size_alloc, World.size_setCell] at *; omega)) _ | refine Below.alloc ?_ (by first | omega | (simp; done) | (simp; omega) | (simp only [World.size_alloc, World.size_setCell] at *; omega)) _ | refine Below.trans ?_ (Below.mono (by assumption) (by first | omega | (simp; done) | (simp; omega) | (simp only [World.size_alloc, World.size_setCell] at *; omega)))))
    · have h1b : m ≥ 8 := by omega
      go_enter Try.func22, Try.ntmps22
      go_wp2_with fail
      refine bodyPost_ret (v := .tuple #[.agg (encV (ent0)).toArray, .int .i64 (7)]) (by simp only [results, Try.results22]; go_simp; rfl) rfl ⟨rfl, ?_⟩
      (repeat (first | exact Below.refl _ _ | refine Below.setCell ?_ (by first | omega | (simp; done) | (simp; omega) | (simp only [World.size_alloc, World.size_setCell] at *; omega)) _ | refine Below.alloc ?_ (by first | omega | (simp; done) | (simp; omega) | (simp only [World.size_alloc, World.size_setCell] at *; omega)) _ | refine Below.trans ?_ (Below.mono (by assumption) (by first | omega | (simp; done) | (simp; omega) | (simp only [World.size_alloc, World.size_setCell] at *; omega)))))
  rw [if_neg h1] at hE
  have h1a : ¬ m < 0 := by omega
  have h1b : ¬ m ≥ 8 := by omega
  by_cases h2 : a < 1 ∨ a > 1000000
  · rw [if_pos h2] at hE
    subst hE
    by_cases h2a : a < 1
    · go_enter Try.func22, Try.ntmps22
      go_wp2_with fail
      refine bodyPost_ret (v := .tuple #[.agg (encV (ent0)).toArray, .int .i64 (1)]) (by simp only [results, Try.results22]; go_simp; rfl) rfl ⟨rfl, ?_⟩
      (repeat (first | exact Below.refl _ _ | refine Below.setCell ?_ (by first | omega | (simp; done) | (simp; omega) | (simp only [World.size_alloc, World.size_setCell] at *; omega)) _ | refine Below.alloc ?_ (by first | omega | (simp; done) | (simp; omega) | (simp only [World.size_alloc, World.size_setCell] at *; omega)) _ | refine Below.trans ?_ (Below.mono (by assumption) (by first | omega | (simp; done) | (simp; omega) | (simp only [World.size_alloc, World.size_setCell] at *; omega)))))
    · have h2b : a > 1000000 := by omega
      go_enter Try.func22, Try.ntmps22
      go_wp2_with fail
      refine bodyPost_ret (v := .tuple #[.agg (encV (ent0)).toArray, .int .i64 (1)]) (by simp only [results, Try.results22]; go_simp; rfl) rfl ⟨rfl, ?_⟩
      (repeat (first | exact Below.refl _ _ | refine Below.setCell ?_ (by first | omega | (simp; done) | (simp; omega) | (simp only [World.size_alloc, World.size_setCell] at *; omega)) _ | refine Below.alloc ?_ (by first | omega | (simp; done) | (simp; omega) | (simp only [World.size_alloc, World.size_setCell] at *; omega)) _ | refine Below.trans ?_ (Below.mono (by assumption) (by first | omega | (simp; done) | (simp; omega) | (simp only [World.size_alloc, World.size_setCell] at *; omega)))))
  rw [if_neg h2] at hE
  have h2a : ¬ a < 1 := by omega
  have h2b : ¬ a > 1000000 := by omega
  by_cases hm : momE B t = 0
  · rw [if_neg (by simp [hm])] at hE
    have h3 : (B.es.length : Int) ≥ 512 := by
      rcases Nat.lt_or_ge B.es.length 512 with h | h
      · rw [if_neg (by omega)] at hE; omega
      · omega
    rw [if_pos (by omega)] at hE
    subst hE
    rcases ownsRow_open hB.own with ⟨rfl, hn0, _⟩ | ⟨g, cap, cur, rfl, hg, hgb, hcap, hcm, hcs, hcur⟩
    · omega
    go_enter Try.func22, Try.ntmps22
    go_wp2_with (go_at_call 29; refine (moment_any hB1 t).mono ?_; rintro e w' ⟨rfl, rfl⟩; rw [hm])
    refine bodyPost_ret (v := .tuple #[.agg (encV (ent0)).toArray, .int .i64 (8)]) (by simp only [results, Try.results22]; go_simp; rfl) rfl ⟨rfl, ?_⟩
    (repeat (first | exact Below.refl _ _ | refine Below.setCell ?_ (by first | omega | (simp; done) | (simp; omega) | (simp only [World.size_alloc, World.size_setCell] at *; omega)) _ | refine Below.alloc ?_ (by first | omega | (simp; done) | (simp; omega) | (simp only [World.size_alloc, World.size_setCell] at *; omega)) _ | refine Below.trans ?_ (Below.mono (by assumption) (by first | omega | (simp; done) | (simp; omega) | (simp only [World.size_alloc, World.size_setCell] at *; omega)))))
  · rw [if_pos hm] at hE
    subst hE
    generalize hE' : momE B t = E at hm ⊢
    go_enter Try.func22, Try.ntmps22
    go_wp2_with (go_at_call 29; refine (moment_any hB1 t).mono ?_; rintro e w' ⟨rfl, rfl⟩; rw [hE'])
    refine bodyPost_ret (v := .tuple #[.agg (encV (ent0)).toArray, .int .i64 (E)]) (by simp only [results, Try.results22]; go_simp; rfl) rfl ⟨rfl, ?_⟩
    (repeat (first | exact Below.refl _ _ | refine Below.setCell ?_ (by first | omega | (simp; done) | (simp; omega) | (simp only [World.size_alloc, World.size_setCell] at *; omega)) _ | refine Below.alloc ?_ (by first | omega | (simp; done) | (simp; omega) | (simp only [World.size_alloc, World.size_setCell] at *; omega)) _ | refine Below.trans ?_ (Below.mono (by assumption) (by first | omega | (simp; done) | (simp; omega) | (simp only [World.size_alloc, World.size_setCell] at *; omega)))))

theorem issue_end {w w1 : World} {base b r g cap : Nat} {v now : Int} {es : List Ent} {x : Ent} {sv : Value} {zs : Array Value} (h1 : Blk w1 b 65 #[.int .i64 v, .int .i64 now, sv]) (h3 : Blk w1 r 38 zs)
    (ho : w1.ownsRow base 74 6 (.slice (some ⟨g, 0, none⟩) (es.length + 1) cap) (es.length + 1) (rowOf encE es ++ encE x)) (hf : FrT base TB w w1) (hb : base ≤ b) (hr : w.heap.size ≤ r) (t : Int) (y0 y1 y2 y3 y4 : Value) :
    Holds (((((((w1.setCell ⟨b, 2, none⟩ (.slice (some ⟨g, 0, none⟩) (es.length + 1) cap)).setCell ⟨b, 1, none⟩ (.int .i64 t)).setCell ⟨r, 0, none⟩ y0).setCell ⟨r, 1, none⟩ y1).setCell ⟨r, 2, none⟩ y2).setCell ⟨r, 3, none⟩ y3).setCell ⟨r, 4, none⟩ y4)
      base b (.slice (some ⟨g, 0, none⟩) (es.length + 1) cap) ⟨v, t, es ++ [x]⟩ ∧
    FrT base TB w (((((((w1.setCell ⟨b, 2, none⟩ (.slice (some ⟨g, 0, none⟩) (es.length + 1) cap)).setCell ⟨b, 1, none⟩ (.int .i64 t)).setCell ⟨r, 0, none⟩ y0).setCell ⟨r, 1, none⟩ y1).setCell ⟨r, 2, none⟩ y2).setCell ⟨r, 3, none⟩ y3).setCell ⟨r, 4, none⟩ y4) := by
  obtain ⟨cur, hg⟩ : ∃ cur, Blk w1 g 74 cur := by
    rcases ownsRow_open ho with ⟨h0, _⟩ | ⟨g', cap', cur, h0, _, hgb, _⟩
    · cases h0
    · cases h0; exact ⟨cur, hgb⟩
  have hgb : g ≠ b := fun e => by unfold Blk at h1 hg; rw [e, h1] at hg; cases hg
  have hgr : g ≠ r := fun e => by unfold Blk at h3 hg; rw [e, h3] at hg; cases hg
  have hbr : b ≠ r := fun e => by unfold Blk at h1 h3; rw [e, h3] at h1; cases h1
  have oo : ∀ {W : World} {q : Addr} (u : Value), W.ownsRow base 74 6 (.slice (some ⟨g, 0, none⟩) (es.length + 1) cap) (es.length + 1) (rowOf encE es ++ encE x) → g ≠ q.block → (W.setCell q u).ownsRow base 74 6 (.slice (some ⟨g, 0, none⟩) (es.length + 1) cap) (es.length + 1) (rowOf encE es ++ encE x) :=
    fun u h hq => ownsRow_setCell_other h (by simpa [Value.ownBlock] using hq) u
  refine ⟨⟨hb, ?_, ?_⟩, ?_⟩
  · exact ((((((h1.put 2 _).put 1 _).far (p := ⟨r, 0, none⟩) hbr _).far (p := ⟨r, 1, none⟩) hbr _).far (p := ⟨r, 2, none⟩) hbr _).far (p := ⟨r, 3, none⟩) hbr _).far (p := ⟨r, 4, none⟩) hbr _
  · have := oo (q := ⟨r, 4, none⟩) y4 (oo (q := ⟨r, 3, none⟩) y3 (oo (q := ⟨r, 2, none⟩) y2 (oo (q := ⟨r, 1, none⟩) y1 (oo (q := ⟨r, 0, none⟩) y0 (oo (q := ⟨b, 1, none⟩) (.int .i64 t) (oo (q := ⟨b, 2, none⟩) (.slice (some ⟨g, 0, none⟩) (es.length + 1) cap) ho hgb) hgb) hgr) hgr) hgr) hgr) hgr
    simpa [rowOf_append, rowOf] using this
  · exact ((((((hf.setB (p := ⟨b, 2, none⟩) hb h1 rfl _).setB (p := ⟨b, 1, none⟩) hb (h1.put 2 _) rfl _).setNew (p := ⟨r, 0, none⟩) hr _).setNew (p := ⟨r, 1, none⟩) hr _).setNew (p := ⟨r, 2, none⟩) hr _).setNew (p := ⟨r, 3, none⟩) hr _).setNew (p := ⟨r, 4, none⟩) hr _

set_option maxRecDepth 20000 in
set_option maxHeartbeats 1000000 in
theorem issue_ok {w : World} {base b : Nat} {sv : Value} {B : Bk} (hB : Holds w base b sv B) (hok : BkOk B) (hbw : base ≤ w.heap.size) (m a t : Int) (hn : issE B m a t = 0) :
    Calls Try.prog 22 #[.pointer (some ⟨b, 0, none⟩), .int .i64 m, .int .i64 a, .int .i64 t] w fun e w' => e = .returned (.tuple #[.agg (encV (newE B m a t)).toArray, .int .i64 (0)]) ∧ ∃ sv', Holds w' base b sv' { B with es := B.es ++ [newE B m a t], now := t } ∧ FrT base TB w w' := by
  have hE : issE B m a t = if m < 0 ∨ m ≥ 8 then 7 else if a < 1 ∨ a > 1000000 then 1 else if momE B t ≠ 0 then momE B t else if B.es.length ≥ 512 then 8 else 0 := rfl
  rw [hn] at hE
  have h1 : ¬ (m < 0 ∨ m ≥ 8) := fun h => by rw [if_pos h] at hE; omega
  rw [if_neg h1] at hE
  have h2 : ¬ (a < 1 ∨ a > 1000000) := fun h => by rw [if_pos h] at hE; omega
  rw [if_neg h2] at hE
  have hm : momE B t = 0 := by
    rcases Decidable.em (momE B t = 0) with h | h
    · exact h
    · rw [if_pos h] at hE; omega
  rw [if_neg (by simp [hm])] at hE
  have h3 : B.es.length < 512 := by
    rcases Nat.lt_or_ge B.es.length 512 with h | h
    · exact h
    · rw [if_pos (by omega)] at hE; omega
  have h1a : ¬ m < 0 := by omega
  have h1b : ¬ m ≥ 8 := by omega
  have h2a : ¬ a < 1 := by omega
  have h2b : ¬ a > 1000000 := by omega
  have h3i : (B.es.length : Int) < 512 := by omega
  obtain ⟨t1, t2, t3⟩ := momE_ok hm
  have v1 := hok.v1
  have v2 := hok.v2
  clear hE
  have hB1 := hB.step (w' := w.alloc (.cells #[.int .i64 0, .int .i64 0, .int .i64 0, .int .i64 0, .int .i64 0] 38)) ((Below.refl _ _).alloc (Nat.le_refl _) _)
  have c0 := hB.blk.cell
  have l0 := hB.blk.lt
  have f0 := hB.blk.free
  have hw1 : IntKind.i64.wrap (↑B.es.length + 1) = ↑B.es.length + 1 := wrapI _ (by omega)
  have hw2 : IntKind.i64.wrap (t + B.valid) = t + B.valid := wrapI _ (by omega)
  obtain ⟨oa, cap, rfl⟩ : ∃ oa cap, sv = .slice oa B.es.length cap := by
    rcases ownsRow_open hB.own with ⟨rfl, hn0, _⟩ | ⟨g, cap, cur, rfl, _⟩
    · exact ⟨none, 0, by rw [hn0]⟩
    · exact ⟨_, _, rfl⟩
  go_enter Try.func22, Try.ntmps22
  go_wp2_with (go_at_call 29; refine (moment_any hB1 t).mono ?_; rintro e w' ⟨rfl, rfl⟩; rw [hm])
  go_region_held3 (fun w' => w'.cell? ⟨b, 0, none⟩ = some (.int .i64 B.valid) ∧ w'.cell? ⟨b, 2, none⟩ = some (.slice oa B.es.length cap)) (go_keep) (fail)
  have hown : ∀ W, Below w.heap.size w W → W.ownsRow base 74 6 (.slice oa B.es.length cap) B.es.length (rowOf encE B.es) := fun W h => ownsRow_step hB.own h
  have hbne : ∀ k, (Value.slice oa B.es.length cap).ownBlock = some k → k ≠ b := by
    intro k hk e
    have h1 := hB.blk
    rcases ownsRow_open hB.own with ⟨h0, _⟩ | ⟨g, cap', cur, h0, hg, hgb, _⟩
    · rw [h0] at hk; cases hk
    · rw [h0] at hk
      obtain rfl : g = k := by simpa [Value.ownBlock] using hk
      unfold Blk at h1 hgb
      rw [← e, hgb] at h1
      cases h1
  obtain ⟨i, hi, hz, hsi, hby⟩ : ∃ i, Try.prog.info? 74 = some i ∧ i.zero = some (.agg #[.int .i64 0, .int .i64 0, .int .i64 0, .int .i64 0, .int .i64 0, .bool false]) ∧ i.size = 6 ∧ i.bytes = 48 := info_of (by kernel_rfl)
  have hrow : ∀ k, (Value.slice oa B.es.length cap).ownBlock = some k → ∃ cur, Blk w k 74 cur := by
    intro k hk
    rcases ownsRow_open hB.own with ⟨h0, _⟩ | ⟨g, cap', cur, h0, hg, hgb, _⟩
    · rw [h0] at hk; cases hk
    · rw [h0] at hk
      obtain rfl : g = k := by simpa [Value.ownBlock] using hk
      exact ⟨cur, hgb⟩
  have hblt : ∀ k, (Value.slice oa B.es.length cap).ownBlock = some k → k < w.heap.size := fun k hk => (hB.own.lt k hk).2
  have hBv : Blk ((w.alloc (.cells #[.int .i64 0, .int .i64 0, .int .i64 0, .int .i64 0, .int .i64 0] 38)).alloc (.cells #[.int .i64 (B.es.length + 1), .int .i64 m, .int .i64 a, .int .i64 t, .int .i64 (t + B.valid)] 38)) (w.heap.size + 1) 38 #[.int .i64 (B.es.length + 1), .int .i64 m, .int .i64 a, .int .i64 t, .int .i64 (t + B.valid)] := by
    have := Blk.new (w.alloc (.cells #[.int .i64 0, .int .i64 0, .int .i64 0, .int .i64 0, .int .i64 0] 38)) 38 #[.int .i64 (B.es.length + 1), .int .i64 m, .int .i64 a, .int .i64 t, .int .i64 (t + B.valid)]
    simpa using this
  have hB0 := Blk.new w 38 #[.int .i64 0, .int .i64 0, .int .i64 0, .int .i64 0, .int .i64 0]
  have hBe : Blk (((w.alloc (.cells #[.int .i64 0, .int .i64 0, .int .i64 0, .int .i64 0, .int .i64 0] 38)).alloc (.cells #[.int .i64 (B.es.length + 1), .int .i64 m, .int .i64 a, .int .i64 t, .int .i64 (t + B.valid)] 38)).alloc (.cells #[.int .i64 (B.es.length + 1), .int .i64 m, .int .i64 a, .int .i64 t, .int .i64 (t + B.valid), .bool false] 74)) (w.heap.size + 2) 74 #[.int .i64 (B.es.length + 1), .int .i64 m, .int .i64 a, .int .i64 t, .int .i64 (t + B.valid), .bool false] := by
    have := Blk.new ((w.alloc (.cells #[.int .i64 0, .int .i64 0, .int .i64 0, .int .i64 0, .int .i64 0] 38)).alloc (.cells #[.int .i64 (B.es.length + 1), .int .i64 m, .int .i64 a, .int .i64 t, .int .i64 (t + B.valid)] 38)) 74 #[.int .i64 (B.es.length + 1), .int .i64 m, .int .i64 a, .int .i64 t, .int .i64 (t + B.valid), .bool false]
    simpa using this
  go_wp2_with fail
  have hS : ∀ W, Below w.heap.size w W → W.cell? ⟨b, 2, none⟩ = some (.slice oa B.es.length cap) := fun W h => (hB.blk.step h).cell 2
  have hr1 : World.cell? (((w.alloc (.cells #[.int .i64 0, .int .i64 0, .int .i64 0, .int .i64 0, .int .i64 0] 38)).alloc (.cells #[.int .i64 (B.es.length + 1), .int .i64 m, .int .i64 a, .int .i64 t, .int .i64 (t + B.valid)] 38)).alloc (.cells #[.int .i64 (B.es.length + 1), .int .i64 m, .int .i64 a, .int .i64 t, .int .i64 (t + B.valid), .bool false] 74)) ⟨b, 2, none⟩ = some (.slice oa B.es.length cap) := hS _ (by ((repeat (first | exact Below.refl _ _ | refine Below.drew ?_ | refine Below.alloc ?_ (by first | exact Nat.le_refl _ | omega | (simp only [World.size_alloc, World.size_drew, World.size_setCell]; omega)) _)); first | (fail_if_success (focus skip)) | fail))
  have hr2 : World.cell? (((w.alloc (.cells #[.int .i64 0, .int .i64 0, .int .i64 0, .int .i64 0, .int .i64 0] 38)).alloc (.cells #[.int .i64 (B.es.length + 1), .int .i64 m, .int .i64 a, .int .i64 t, .int .i64 (t + B.valid)] 38)).alloc (.cells #[.int .i64 (B.es.length + 1), .int .i64 m, .int .i64 a, .int .i64 t, .int .i64 (t + B.valid), .bool false] 74)).drew.drew ⟨b, 2, none⟩ = some (.slice oa B.es.length cap) := hS _ (by ((repeat (first | exact Below.refl _ _ | refine Below.drew ?_ | refine Below.alloc ?_ (by first | exact Nat.le_refl _ | omega | (simp only [World.size_alloc, World.size_drew, World.size_setCell]; omega)) _)); first | (fail_if_success (focus skip)) | fail))
  go_region_law ((refine step_append_lies _ (by rfl) _ _ _ (by rfl) base 74 i _ 6 48 Try.underlying63 hi hz hsi hby (by rfl) (by omega) (.slice oa B.es.length cap) B.es.length (rowOf encE B.es) (by rfl) (hown _ (by ((repeat (first | exact Below.refl _ _ | refine Below.drew ?_ | refine Below.alloc ?_ (by first | exact Nat.le_refl _ | omega | (simp only [World.size_alloc, World.size_drew, World.size_setCell]; omega)) _)); first | (fail_if_success (focus skip)) | fail))) ⟨w.heap.size + 2, 0, none⟩ 1 1 (encE (newE B m a t)) (by rfl) (by rfl) (World.news_of_block (hBe.step (by ((repeat (first | exact Below.refl _ _ | refine Below.drew ?_ | refine Below.alloc ?_ (by first | exact Nat.le_refl _ | omega | (simp only [World.size_alloc, World.size_drew, World.size_setCell]; omega)) _)); first | (fail_if_success (focus skip)) | fail)))) (by simp [encE, Value.oneCell']) (by omega) (by simp only [maxLen]; omega) (by omega) (by simp; omega) (w.heap.size + 3) (by simp) ?_; intro g cap' w1 hown1 hgrow hat hlt; clear hat; have hk1 := Blk.grown (hB.blk.step (by ((repeat (first | exact Below.refl _ _ | refine Below.drew ?_ | refine Below.alloc ?_ (by first | exact Nat.le_refl _ | omega | (simp only [World.size_alloc, World.size_drew, World.size_setCell]; omega)) _)); first | (fail_if_success (focus skip)) | fail))) hgrow (fun h => hbne _ h.symm rfl); have hk2 := Blk.grown (hBv.step (by ((repeat (first | exact Below.refl _ _ | refine Below.drew ?_ | refine Below.alloc ?_ (by first | exact Nat.le_refl _ | omega | (simp only [World.size_alloc, World.size_drew, World.size_setCell]; omega)) _)); first | (fail_if_success (focus skip)) | fail))) hgrow (fun h => by have := hblt _ h.symm; omega); have hk3 := Blk.grown (hB0.step (by ((repeat (first | exact Below.refl _ _ | refine Below.drew ?_ | refine Below.alloc ?_ (by first | exact Nat.le_refl _ | omega | (simp only [World.size_alloc, World.size_drew, World.size_setCell]; omega)) _)); first | (fail_if_success (focus skip)) | fail))) hgrow (fun h => by have := hblt _ h.symm; omega); have hf1 := hk1.free; have hc1 := hk1.cell; have hl1 := hk1.lt))
  all_goals (
    have hl2 := hk2.lt
    have hc2 := hk2.cell
    have hl3 := hk3.lt
    have hc3 := hk3.cell
    have hf3 := hk3.free
    go_wp2_with fail
    refine bodyPost_ret (v := .tuple #[.agg (encV (newE B m a t)).toArray, .int .i64 (0)]) (by simp only [results, Try.results22]; go_simp; rfl) rfl ⟨rfl, .slice (some ⟨g, 0, none⟩) (B.es.length + 1) cap', ?_⟩
    refine issue_end (x := newE B m a t) hk1 hk3 hown1 (FrT.grown (.of_below (by ((repeat (first | exact Below.refl _ _ | refine Below.drew ?_ | refine Below.alloc ?_ (by first | exact Nat.le_refl _ | omega | (simp only [World.size_alloc, World.size_drew, World.size_setCell]; omega)) _)); first | (fail_if_success (focus skip)) | fail))) hgrow fun k hk => ⟨(hB.own.lt k hk).1, ?_⟩) hB.hb (by omega) t _ _ _ _ _
    obtain ⟨cur, hcur⟩ := hrow k hk
    exact ⟨cur, _, _, Blk.step hcur (by ((repeat (first | exact Below.refl _ _ | refine Below.drew ?_ | refine Below.alloc ?_ (by first | exact Nat.le_refl _ | omega | (simp only [World.size_alloc, World.size_drew, World.size_setCell]; omega)) _)); first | (fail_if_success (focus skip)) | fail)), rfl⟩)

end Go.Proofs.Ytbpeiljpbcgjaaa
