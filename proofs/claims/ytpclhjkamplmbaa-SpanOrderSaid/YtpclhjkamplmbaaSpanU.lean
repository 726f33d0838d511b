/- The law SpanOrder: the walk. -/
import Derived.Test.YtpclhjkamplmbaaSpanS
import Derived.Test.YtpclhjkamplmbaaAppend
import Derived.Deep.DeepCutAuto
import Derived.Deep.RegionLaw
import Derived.WideShapes
namespace Go.Proofs.Ytpclhjkamplmbaa
set_option linter.unusedVariables false
set_option linter.unusedSimpArgs false
open Go.RowKit Go.Deep Go.WideShapes

theorem RowIn.src {α : Type} {w : World} {v : Value} {C : Nat} {f : α → List Value} {l : List α} (hf : ∀ a, (f a).length = C) (h : RowIn w v C f l) : Src w v l.length (rowOf f l) := by
  obtain ⟨oa, cap, rfl, h1, h2, h3, h4⟩ := h.at_
  cases l with
  | nil =>
    cases oa with
    | none => exact .inl ⟨by rw [h3 rfl]; rfl, rfl, rfl⟩
    | some ad => exact .inr ⟨ad, cap, rfl, fun j u hu => by simp [rowOf] at hu⟩
  | cons x l =>
    obtain ⟨b, o, rfl, hb, hc⟩ := h4 (by simp)
    refine .inr ⟨_, cap, rfl, fun j u hu => ?_⟩
    have hC : 0 < C := by
      rcases Nat.eq_zero_or_pos C with h0 | h0
      · have : (rowOf f (x :: l)).length = 0 := by rw [rowOf_length hf, h0]; simp
        rw [List.eq_nil_of_length_eq_zero this] at hu; simp at hu
      · exact h0
    have hj : j < (x :: l).length * C := by
      have := (List.getElem?_eq_some_iff.1 hu).1
      rwa [rowOf_length hf] at this
    have hk : j / C < (x :: l).length := Nat.div_lt_of_lt_mul (by rw [Nat.mul_comm]; exact hj)
    have hm := Nat.mod_lt j hC
    have hdm := Nat.div_add_mod j C
    have he : (x :: l)[j / C]? = some ((x :: l)[j / C]'hk) := List.getElem?_eq_getElem hk
    have h5 := hc _ _ he (j % C) hm
    have h6 := rowOf_get hf _ _ (j % C) _ he hm
    rw [Nat.mul_comm, hdm] at h6
    rw [← h6, hu] at h5
    rw [add_plain, ← h5]
    congr 2
    rw [Nat.add_assoc, Nat.mul_comm, hdm]
theorem RowIn.take {α : Type} {w : World} {oa : Option Addr} {n cap C : Nat} {f : α → List Value} {l : List α} (h : RowIn w (.slice oa n cap) C f l) {k : Nat} (hk : k ≤ l.length) : RowIn w (.slice oa k cap) C f (l.take k) := by
  obtain ⟨oa, cap, h0, h1, h2, h3, h4⟩ := h.at_
  simp only [Value.slice.injEq] at h0
  obtain ⟨rfl, rfl, rfl⟩ := h0
  refine ⟨_, _, by simp [Nat.min_eq_left hk], by simp; omega, h2, h3, fun hne => ?_⟩
  obtain ⟨b, o, e, hb, hc⟩ := h4 (by rintro rfl; simp at hne)
  exact ⟨b, o, e, hb, fun j x hx => hc j x (by
    rw [List.getElem?_take] at hx
    split at hx
    · exact hx
    · cases hx)⟩
theorem RowIn.drop {α : Type} {w : World} {b o n cap C : Nat} {f : α → List Value} {l : List α} (h : RowIn w (.slice (some ⟨b, o, none⟩) n cap) C f l) {k : Nat} (hk : k < l.length) : RowIn w (.slice (some ⟨b, o + k * C, none⟩) (l.length - k) (cap - k)) C f (l.drop k) := by
  obtain ⟨oa, cap, h0, h1, h2, h3, h4⟩ := h.at_
  simp only [Value.slice.injEq] at h0
  obtain ⟨rfl, rfl, rfl⟩ := h0
  refine ⟨some ⟨b, o + k * C, none⟩, cap - k, by simp, by simp; omega, by omega, by simp, fun hne => ?_⟩
  obtain ⟨b', o', e, hb, hc⟩ := h4 (by rintro rfl; simp at hne)
  simp only [Option.some.injEq, Addr.mk.injEq, and_true] at e
  obtain ⟨rfl, rfl⟩ := e
  refine ⟨_, _, rfl, hb, fun j x hx i hi => ?_⟩
  rw [List.getElem?_drop] at hx
  have := hc (k + j) x hx i hi
  rw [← this]
  congr 2
  rw [Nat.add_mul]; omega

theorem own_lt {w : World} {base : Nat} {e : TypeId} {size n : Nat} {v : Value} {xs : List Value} (h : w.ownsRow base e size v n xs) : ∀ j, v.ownBlock = some j → j < w.heap.size := by
  intro j hj
  rcases ownsRow_open h with ⟨rfl, _⟩ | ⟨g, cap, cur, rfl, _, hB, _⟩
  · cases hj
  · simp only [Value.ownBlock, Option.some.injEq] at hj
    subst hj
    exact hB.lt
def Rot (w : World) (S : Sp) (E : Int) (p e : Value) (wr : World) : Prop := ∃ g : Nat, p = .pointer (some ⟨g, 0, none⟩) ∧ e = .int .i64 E ∧ Below w.heap.size w wr ∧ w.heap.size ≤ g ∧ Blk wr g 23 #[.int .i64 S.lo, .int .i64 S.hi]
set_option maxRecDepth 100000 in
set_option maxHeartbeats 4000000 in
theorem law10 {w : World} {v : Value} {l : List Sp} (hl : RowIn w v 2 encP l) (t : Int) (ht0 : 0 ≤ t) (ht1 : t ≤ 65535) : Calls Try.prog 12 #[v, .int .u16 t] w fun e w' => e = .returned (.bool true) ∧ Below w.heap.size w w' := by
  obtain ⟨oa, cap, hv, hlc1, hlc2, hN, hlc⟩ := hl.at_
  unfold maxLen at hlc2
  have HL := Lib.hid hlc
  clear hlc
  subst hv
  by_cases hn : l.length > 1000
  · have hn2 : (l.length : Int) > 1000 := by omega
    go_enter Try.func12, Try.ntmps12
    go_wp2_with fail
    refine (awake_any _).mono ?_
    rintro e wa ⟨rfl, hba⟩
    go_wp2_with fail
    go_ret
    exact ⟨by simp, hba⟩
  have hn2 : ¬ (l.length : Int) > 1000 := by omega
  have h1 := fun w h => sumL_any (w := w) (v := .slice oa l.length cap) (l := l) h
  by_cases hpos : 0 < l.length
  · obtain ⟨lb, lo, ho, hll, hlc⟩ := HL.out (by rintro rfl; simp at hpos)
    clear hlc
    subst ho
    have hpos2 : (0 : Int) < l.length := by omega
    obtain ⟨k, hk⟩ : ∃ k : Nat, t % l.length = k := ⟨(t % l.length).toNat, by have := Int.emod_nonneg t (show (l.length : Int) ≠ 0 by omega); omega⟩
    have hkl : k < l.length := by have := Int.emod_lt_of_pos t hpos2; omega
    have hkl2 : (k : Int) < l.length := by omega
    have hk0 : (0 : Int) ≤ k := by omega
    go_enter Try.func12, Try.ntmps12
    go_wp2_with fail
    refine (h1 _ hl).mono ?_
    rintro e w1 ⟨rfl, hb1⟩
    go_wp2_with fail
    have hl1 := (hl.step hb1).step (Below.alloc (Below.refl _ _) (Nat.le_refl _) (.cells #[.int .i64 (sumS l).lo, .int .i64 (sumS l).hi] 23))
    have C1 := Blk.new w1 23 #[.int .i64 (sumS l).lo, .int .i64 (sumS l).hi]
    have hb := hb1.alloc hb1.size (.cells #[.int .i64 (sumS l).lo, .int .i64 (sumS l).hi] 23)
    have hgs : w1.heap.size < (w1.alloc (.cells #[.int .i64 (sumS l).lo, .int .i64 (sumS l).hi] 23)).heap.size := by simp
    generalize hg1 : w1.heap.size = g1 at *
    generalize w1.alloc (.cells #[.int .i64 (sumS l).lo, .int .i64 (sumS l).hi] 23) = wA at *
    clear hb1 hg1
    go_cut [8, 9] (fun p e wx => Rot wA (sumS l) (sumE l) p e wx)
    case first =>
      obtain ⟨ti, hi, hz, hsi, hby⟩ := info_of (P := Try.prog) (t := 23) (z := .agg #[.int .i64 0, .int .i64 0]) (size := 2) (bytes := 16) (by kernel_rfl)
      have own0 : ∀ (W : World) (k : Nat), Blk W k 23 #[] → wA.heap.size ≤ k → W.ownsRow wA.heap.size 23 2 (.slice (some ⟨k, 0, none⟩) 0 0) 0 [] := fun W k hk hw =>
        ⟨by simp, .inr ⟨k, 0, #[], rfl, hw, hk, Nat.le_refl _, by simp, by simp, by simp⟩⟩
      have hone : ∀ (m : List Sp), ∀ u ∈ rowOf encP m, u.oneCell' = true := by
        intro m u hu
        unfold rowOf at hu
        obtain ⟨e, _, he⟩ := List.mem_flatMap.1 hu
        simp only [encP, List.mem_cons, List.not_mem_nil, or_false] at he
        rcases he with rfl | rfl <;> rfl
      have ha := Lib.hid (hl1.drop hkl)
      have hbk := Lib.hid (hl1.take (k := k) (by omega))
      have BEa := Blk.new wA.drew 23 #[]
      have BEc : Blk ((wA.drew.alloc (.cells #[] 23)).alloc (.cells #[.int .i64 0, .int .i64 0] 23)) wA.heap.size 23 #[] := BEa.alloc _
      have BEb : Blk ((wA.drew.alloc (.cells #[.int .i64 0, .int .i64 0] 23)).alloc (.cells #[] 23)) (wA.heap.size + 1) 23 #[] := by
        have := Blk.new (wA.drew.alloc (.cells #[.int .i64 0, .int .i64 0] 23)) 23 #[]
        simpa using this
      have q1 : k ≤ l.length := by omega
      have q2 : k ≤ cap := by omega
      have q3 : ¬ cap = k := by omega
      have q4 : k < cap := by omega
      have hsum : ∀ (w : World) (v : Value), RowIn w v 2 encP (l.drop k ++ l.take k) → Calls Try.prog 22 #[v] w fun e w' => e = .returned (.tuple #[.agg #[.int .i64 (sumS l).lo, .int .i64 (sumS l).hi], .int .i64 (sumE l)]) ∧ Below w.heap.size w w' := fun w v h => by
        have := sumL_any h
        rwa [(sum_rot l k).1, (sum_rot l k).2] at this
      have HSUM := Lib.hid hsum
      clear hsum h1
      have Z0 : Blk ((wA.drew.alloc (.cells #[.int .i64 0, .int .i64 0] 23)).alloc (.cells #[] 23)) wA.heap.size 23 #[.int .i64 0, .int .i64 0] := (Blk.new wA.drew 23 #[.int .i64 0, .int .i64 0]).alloc _
      have Z1 : Blk ((wA.drew.alloc (.cells #[] 23)).alloc (.cells #[.int .i64 0, .int .i64 0] 23)) (wA.heap.size + 1) 23 #[.int .i64 0, .int .i64 0] := by
        have := Blk.new (wA.drew.alloc (.cells #[] 23)) 23 #[.int .i64 0, .int .i64 0]
        simpa using this
      go_region_law ((first
        | (refine step_append_any _ (by rfl) _ _ _ (by rfl) wA.heap.size 23 ti _ 2 16 Try.underlying31 hi hz hsi hby (by rfl) (by omega) v1 _ _ (by rfl) (ownsRow_step hown1 (by ((repeat (first | exact Below.refl _ _ | refine Below.drew ?_ | refine Below.alloc ?_ (by first | exact Nat.le_refl _ | omega | (simp only [World.size_alloc, World.size_drew, World.size_setCell]; omega)) _)); first | (fail_if_success (focus skip)) | fail))) _ _ (rowOf encP (l.take k)) (by rfl) ((hbk.out.step (zb1.trans (Below.mono (w := w1) (B := w1.heap.size) (by ((repeat (first | exact Below.refl _ _ | refine Below.drew ?_ | refine Below.alloc ?_ (by first | exact Nat.le_refl _ | omega | (simp only [World.size_alloc, World.size_drew, World.size_setCell]; omega)) _)); first | (fail_if_success (focus skip)) | fail)) zs1))).src encP_len) (rowOf_length encP_len _) (hone _) (by simp [maxLen]; omega) (by simp; omega) (by have := zs1; first | omega | (simp only [World.size_alloc] <;> omega)) ?_; intro v2 w2 hown2 hgrow2 hat2; have kz2 := Blk.grown kz1 hgrow2 (fun h => hne1 _ h.symm rfl); have zb2 : Below wA.heap.size wA w2 := Below.grown (zb1.trans (Below.mono (w := w1) (B := w1.heap.size) (by ((repeat (first | exact Below.refl _ _ | refine Below.drew ?_ | refine Below.alloc ?_ (by first | exact Nat.le_refl _ | omega | (simp only [World.size_alloc, World.size_drew, World.size_setCell]; omega)) _)); first | (fail_if_success (focus skip)) | fail)) zs1)) hgrow2 (by have := zs1; first | omega | (simp only [World.size_alloc] <;> omega)) hr1; have zs2 := zb2.size; have hown3 : w2.ownsRow wA.heap.size 23 2 v2 (l.drop k ++ l.take k).length ((l.drop k ++ l.take k).flatMap encP) := (by simpa [rowOf] using hown2); clear hown2 hat2)
        | (refine step_append_any _ (by rfl) _ _ _ (by rfl) wA.heap.size 23 ti _ 2 16 Try.underlying31 hi hz hsi hby (by rfl) (by omega) v1 _ _ (by rfl) (ownsRow_step hown1 (by ((repeat (first | exact Below.refl _ _ | refine Below.drew ?_ | refine Below.alloc ?_ (by first | exact Nat.le_refl _ | omega | (simp only [World.size_alloc, World.size_drew, World.size_setCell]; omega)) _)); first | (fail_if_success (focus skip)) | fail))) _ _ (rowOf encP (l.take k)) (by rfl) ((hbk.out.step (zb1.trans (Below.mono (w := w1) (B := w1.heap.size) (by ((repeat (first | exact Below.refl _ _ | refine Below.drew ?_ | refine Below.alloc ?_ (by first | exact Nat.le_refl _ | omega | (simp only [World.size_alloc, World.size_drew, World.size_setCell]; omega)) _)); first | (fail_if_success (focus skip)) | fail)) zs1))).src encP_len) (rowOf_length encP_len _) (hone _) (by simp [maxLen]; omega) (by simp; omega) (by have := zs1; first | omega | (simp only [World.size_alloc] <;> omega)) ?_; intro v2 w2 hown2 hgrow2 hat2; have kz2 := Blk.grown (Blk.new w1 23 #[.int .i64 0, .int .i64 0]) hgrow2 (fun h => absurd (hlt1 _ h.symm) (Nat.lt_irrefl _)); have zb2 : Below wA.heap.size wA w2 := Below.grown (zb1.trans (Below.mono (w := w1) (B := w1.heap.size) (by ((repeat (first | exact Below.refl _ _ | refine Below.drew ?_ | refine Below.alloc ?_ (by first | exact Nat.le_refl _ | omega | (simp only [World.size_alloc, World.size_drew, World.size_setCell]; omega)) _)); first | (fail_if_success (focus skip)) | fail)) zs1)) hgrow2 (by have := zs1; first | omega | (simp only [World.size_alloc] <;> omega)) hr1; have zs2 := zb2.size; have hown3 : w2.ownsRow wA.heap.size 23 2 v2 (l.drop k ++ l.take k).length ((l.drop k ++ l.take k).flatMap encP) := (by simpa [rowOf] using hown2); clear hown2 hat2)
        | (refine step_append_any _ (by rfl) _ _ _ (by rfl) wA.heap.size 23 ti _ 2 16 Try.underlying31 hi hz hsi hby (by rfl) (by omega) v1 _ _ (by rfl) (ownsRow_step hown1 (by ((repeat (first | exact Below.refl _ _ | refine Below.drew ?_ | refine Below.alloc ?_ (by first | exact Nat.le_refl _ | omega | (simp only [World.size_alloc, World.size_drew, World.size_setCell]; omega)) _)); first | (fail_if_success (focus skip)) | fail))) _ _ (rowOf encP (l.take k)) (by rfl) ((hbk.out.step (zb1.trans (Below.mono (w := w1) (B := w1.heap.size) (by ((repeat (first | exact Below.refl _ _ | refine Below.drew ?_ | refine Below.alloc ?_ (by first | exact Nat.le_refl _ | omega | (simp only [World.size_alloc, World.size_drew, World.size_setCell]; omega)) _)); first | (fail_if_success (focus skip)) | fail)) zs1))).src encP_len) (rowOf_length encP_len _) (hone _) (by simp [maxLen]; omega) (by simp; omega) (by have := zs1; first | omega | (simp only [World.size_alloc] <;> omega)) ?_; intro v2 w2 hown2 hgrow2 hat2; have zb2 : Below wA.heap.size wA w2 := Below.grown (zb1.trans (Below.mono (w := w1) (B := w1.heap.size) (by ((repeat (first | exact Below.refl _ _ | refine Below.drew ?_ | refine Below.alloc ?_ (by first | exact Nat.le_refl _ | omega | (simp only [World.size_alloc, World.size_drew, World.size_setCell]; omega)) _)); first | (fail_if_success (focus skip)) | fail)) zs1)) hgrow2 (by have := zs1; first | omega | (simp only [World.size_alloc] <;> omega)) hr1; have zs2 := zb2.size; have hown3 : w2.ownsRow wA.heap.size 23 2 v2 (l.drop k ++ l.take k).length ((l.drop k ++ l.take k).flatMap encP) := (by simpa [rowOf] using hown2); clear hown2 hat2)
        | (refine step_append_any _ (by rfl) _ _ _ (by rfl) wA.heap.size 23 ti _ 2 16 Try.underlying31 hi hz hsi hby (by rfl) (by omega) _ 0 [] (by rfl) (own0 _ _ BEb (by simp)) _ _ (rowOf encP (l.drop k)) (by rfl) ((ha.out.step (by ((repeat (first | exact Below.refl _ _ | refine Below.drew ?_ | refine Below.alloc ?_ (by first | exact Nat.le_refl _ | omega | (simp only [World.size_alloc, World.size_drew, World.size_setCell]; omega)) _)); first | (fail_if_success (focus skip)) | fail))).src encP_len) (rowOf_length encP_len _) (hone _) (by simp [maxLen]; omega) (by simp; omega) (by simp only [World.size_alloc, World.size_drew] <;> omega) ?_; intro v1 w1 hown1 hgrow1 hat1; have kz1 := Blk.grown Z0 hgrow1 (by intro h; simp only [Value.ownBlock, Option.some.injEq, World.size_drew] at h <;> omega); have hr1 : ∀ j, v1.ownBlock = some j → wA.heap.size ≤ j ∧ j ≠ wA.heap.size := (by rintro j hj; rcases hat1 with h | h <;> rw [hj] at h <;> simp only [Value.ownBlock, Option.some.injEq, World.size_alloc, World.size_drew] at h <;> omega); have zb1 : Below wA.heap.size wA w1 := Below.grown (by ((repeat (first | exact Below.refl _ _ | refine Below.drew ?_ | refine Below.alloc ?_ (by first | exact Nat.le_refl _ | omega | (simp only [World.size_alloc, World.size_drew, World.size_setCell]; omega)) _)); first | (fail_if_success (focus skip)) | fail)) hgrow1 (by simp only [World.size_alloc, World.size_drew] <;> omega) (fun j hj => by simp only [Value.ownBlock, Option.some.injEq, World.size_drew] at hj <;> omega); have zs1 := zb1.size; have hlt1 : ∀ j, v1.ownBlock = some j → j < w1.heap.size := own_lt hown1; have hne1 : ∀ j, v1.ownBlock = some j → j ≠ wA.heap.size := (fun j hj => (hr1 j hj).2); replace hr1 : ∀ j, v1.ownBlock = some j → wA.heap.size ≤ j := (fun j hj => (hr1 j hj).1); clear hat1)
        | (refine step_append_any _ (by rfl) _ _ _ (by rfl) wA.heap.size 23 ti _ 2 16 Try.underlying31 hi hz hsi hby (by rfl) (by omega) _ 0 [] (by rfl) (own0 _ _ BEc (by simp)) _ _ (rowOf encP (l.drop k)) (by rfl) ((ha.out.step (by ((repeat (first | exact Below.refl _ _ | refine Below.drew ?_ | refine Below.alloc ?_ (by first | exact Nat.le_refl _ | omega | (simp only [World.size_alloc, World.size_drew, World.size_setCell]; omega)) _)); first | (fail_if_success (focus skip)) | fail))).src encP_len) (rowOf_length encP_len _) (hone _) (by simp [maxLen]; omega) (by simp; omega) (by simp only [World.size_alloc, World.size_drew] <;> omega) ?_; intro v1 w1 hown1 hgrow1 hat1; have kz1 := Blk.grown Z1 hgrow1 (by intro h; simp only [Value.ownBlock, Option.some.injEq, World.size_drew] at h <;> omega); have hr1 : ∀ j, v1.ownBlock = some j → wA.heap.size ≤ j ∧ j ≠ wA.heap.size + 1 := (by rintro j hj; rcases hat1 with h | h <;> rw [hj] at h <;> simp only [Value.ownBlock, Option.some.injEq, World.size_alloc, World.size_drew] at h <;> omega); have zb1 : Below wA.heap.size wA w1 := Below.grown (by ((repeat (first | exact Below.refl _ _ | refine Below.drew ?_ | refine Below.alloc ?_ (by first | exact Nat.le_refl _ | omega | (simp only [World.size_alloc, World.size_drew, World.size_setCell]; omega)) _)); first | (fail_if_success (focus skip)) | fail)) hgrow1 (by simp only [World.size_alloc, World.size_drew] <;> omega) (fun j hj => by simp only [Value.ownBlock, Option.some.injEq, World.size_drew] at hj <;> omega); have zs1 := zb1.size; have hlt1 : ∀ j, v1.ownBlock = some j → j < w1.heap.size := own_lt hown1; have hne1 : ∀ j, v1.ownBlock = some j → j ≠ wA.heap.size + 1 := (fun j hj => (hr1 j hj).2); replace hr1 : ∀ j, v1.ownBlock = some j → wA.heap.size ≤ j := (fun j hj => (hr1 j hj).1); clear hat1)
        | (refine step_append_any _ (by rfl) _ _ _ (by rfl) wA.heap.size 23 ti _ 2 16 Try.underlying31 hi hz hsi hby (by rfl) (by omega) _ 0 [] (by rfl) (own0 _ _ (BEa.step (by ((repeat (first | exact Below.refl _ _ | refine Below.drew ?_ | refine Below.alloc ?_ (by first | exact Nat.le_refl _ | omega | (simp only [World.size_alloc, World.size_drew, World.size_setCell]; omega)) _)); first | (fail_if_success (focus skip)) | fail))) (by simp)) _ _ (rowOf encP (l.drop k)) (by rfl) ((ha.out.step (by ((repeat (first | exact Below.refl _ _ | refine Below.drew ?_ | refine Below.alloc ?_ (by first | exact Nat.le_refl _ | omega | (simp only [World.size_alloc, World.size_drew, World.size_setCell]; omega)) _)); first | (fail_if_success (focus skip)) | fail))).src encP_len) (rowOf_length encP_len _) (hone _) (by simp [maxLen]; omega) (by simp; omega) (by simp only [World.size_alloc, World.size_drew] <;> omega) ?_; intro v1 w1 hown1 hgrow1 hat1; have hr1 : ∀ j, v1.ownBlock = some j → wA.heap.size ≤ j := (by rintro j hj; rcases hat1 with h | h <;> rw [hj] at h <;> simp only [Value.ownBlock, Option.some.injEq, World.size_alloc, World.size_drew] at h <;> omega); have zb1 : Below wA.heap.size wA w1 := Below.grown (by ((repeat (first | exact Below.refl _ _ | refine Below.drew ?_ | refine Below.alloc ?_ (by first | exact Nat.le_refl _ | omega | (simp only [World.size_alloc, World.size_drew, World.size_setCell]; omega)) _)); first | (fail_if_success (focus skip)) | fail)) hgrow1 (by simp only [World.size_alloc, World.size_drew] <;> omega) (fun j hj => by simp only [Value.ownBlock, Option.some.injEq, World.size_drew] at hj <;> omega); have zs1 := zb1.size; have hlt1 : ∀ j, v1.ownBlock = some j → j < w1.heap.size := own_lt hown1; clear hat1)
        | (go_simp; go_at_call 22; refine (HSUM.out _ _ (RowIn.of_own encP_len (ownsRow_step hown3 (by ((repeat (first | exact Below.refl _ _ | refine Below.drew ?_ | refine Below.alloc ?_ (by first | exact Nat.le_refl _ | omega | (simp only [World.size_alloc, World.size_drew, World.size_setCell]; omega)) _)); first | (fail_if_success (focus skip)) | fail))))).mono ?_; rintro e w3 ⟨rfl, hb3⟩; have zb3 := (zb2.trans (Below.mono (w := w2) (B := w2.heap.size) (by ((repeat (first | exact Below.refl _ _ | refine Below.drew ?_ | refine Below.alloc ?_ (by first | exact Nat.le_refl _ | omega | (simp only [World.size_alloc, World.size_drew, World.size_setCell]; omega)) _)); first | (fail_if_success (focus skip)) | fail)) zs2)).trans (hb3.mono (by have := zs2; first | omega | (simp only [World.size_alloc] <;> omega))); have zs3 := zb3.size; have kz3 := kz2.step hb3; have kc := kz3.cell; have kf := kz3.free; have kl := kz3.lt)
        | (go_simp; go_at_call 22; refine (HSUM.out _ _ (RowIn.of_own encP_len (ownsRow_step hown3 (by ((repeat (first | exact Below.refl _ _ | refine Below.drew ?_ | refine Below.alloc ?_ (by first | exact Nat.le_refl _ | omega | (simp only [World.size_alloc, World.size_drew, World.size_setCell]; omega)) _)); first | (fail_if_success (focus skip)) | fail))))).mono ?_; rintro e w3 ⟨rfl, hb3⟩; have zb3 := (zb2.trans (Below.mono (w := w2) (B := w2.heap.size) (by ((repeat (first | exact Below.refl _ _ | refine Below.drew ?_ | refine Below.alloc ?_ (by first | exact Nat.le_refl _ | omega | (simp only [World.size_alloc, World.size_drew, World.size_setCell]; omega)) _)); first | (fail_if_success (focus skip)) | fail)) zs2)).trans (hb3.mono (by have := zs2; first | omega | (simp only [World.size_alloc] <;> omega))); have zs3 := zb3.size; have kz3 := (Blk.new w2 23 #[.int .i64 0, .int .i64 0]).step hb3; have kc := kz3.cell; have kf := kz3.free; have kl := kz3.lt)
        | (go_simp; go_at_call 22; refine (HSUM.out _ _ (RowIn.of_own encP_len (ownsRow_step hown3 (by ((repeat (first | exact Below.refl _ _ | refine Below.drew ?_ | refine Below.alloc ?_ (by first | exact Nat.le_refl _ | omega | (simp only [World.size_alloc, World.size_drew, World.size_setCell]; omega)) _)); first | (fail_if_success (focus skip)) | fail))))).mono ?_; rintro e w3 ⟨rfl, hb3⟩; have zb3 := (zb2.trans (Below.mono (w := w2) (B := w2.heap.size) (by ((repeat (first | exact Below.refl _ _ | refine Below.drew ?_ | refine Below.alloc ?_ (by first | exact Nat.le_refl _ | omega | (simp only [World.size_alloc, World.size_drew, World.size_setCell]; omega)) _)); first | (fail_if_success (focus skip)) | fail)) zs2)).trans (hb3.mono (by have := zs2; first | omega | (simp only [World.size_alloc] <;> omega))); have zs3 := zb3.size)))
      all_goals (
        go_wp2_with fail
        go_meet
        first
        | exact ⟨_, rfl, rfl, (zb3.setCell (by dsimp only; omega) _).setCell (by dsimp only; omega) _, by omega, (kz3.put 0 _).put 1 _⟩
        | exact ⟨_, rfl, rfl, zb3.alloc zs3 _, zs3, Blk.new _ _ _⟩)
    case rest =>
      obtain ⟨g, rfl, rfl, hbw, hgw, CR⟩ := hcut
      replace C1 := C1.step hbw
      replace hl1 := hl1.step hbw
      replace hb := hb.trans (hbw.mono hb.size)
      clear hbw h1
      have h2 := fun w h => sumL_any (w := w) (v := .slice (some ⟨lb, lo, none⟩) k cap) (l := l.take k) h
      have h3 := fun w h => sumL_any (w := w) (v := .slice (some ⟨lb, lo + k * 2, none⟩) (l.length - k) (cap - k)) (l := l.drop k) h
      have h4 := fun w => calls2 (add_any (sumS (l.take k)) (sumS (l.drop k)) w) (add_same _ _).1 (add_same _ _).2
      have hst := @sum_two l k
      have hra : sumE l = 0 → sumE (l.take k) = 0 → sumE (l.drop k) = 0 → raddE (sumS (l.take k)) (sumS (l.drop k)) = 0 ∧ raddS (sumS (l.take k)) (sumS (l.drop k)) = sumS l := fun a b c => by
        obtain ⟨v1, v2, v3, v4⟩ := hst a b c
        unfold raddE raddS
        rw [if_pos ⟨v1, v2⟩, if_pos ⟨v1, v2⟩, v3]
        exact ⟨resE_iff.2 v4, resS_of v4⟩
      have HRA := Lib.hid hra
      clear hra hst
      have ht := hl1.take (k := k) (by omega)
      have hd := hl1.drop hkl
      have q1 : k ≤ l.length := by omega
      have q2 : k ≤ cap := by omega
      have q3 : ¬ cap = k := by omega
      have q4 : k < cap := by omega
      generalize sumS l = S1 at *
      generalize sumE l = E1 at *
      generalize sumS (l.take k) = S2 at *
      generalize sumE (l.take k) = E2 at *
      generalize sumS (l.drop k) = S3 at *
      generalize sumE (l.drop k) = E3 at *
      generalize raddE S2 S3 = E4 at *
      generalize raddS S2 S3 = S4 at *
      have cC1 := C1.cell
      have cCR := CR.cell
      have lC1 := C1.lt
      have lCR := CR.lt
      go_wp2_with fail
      clear cC1 lC1 cCR lCR
      refine (h2 _ ht).mono ?_
      rintro e w5 ⟨rfl, hb5⟩
      replace C1 := C1.step hb5
      replace hd := hd.step hb5
      replace hb := hb.trans (hb5.mono hb.size)
      have cC1 := C1.cell
      have lC1 := C1.lt
      go_wp2_with fail
      clear cC1 lC1
      have C2 := Blk.new w5 23 #[.int .i64 S2.lo, .int .i64 S2.hi]
      replace C1 := C1.alloc (.cells #[.int .i64 S2.lo, .int .i64 S2.hi] 23)
      replace hd := hd.step (Below.alloc (Below.refl _ _) (Nat.le_refl _) (.cells #[.int .i64 S2.lo, .int .i64 S2.hi] 23))
      replace hb := hb.alloc hb.size (.cells #[.int .i64 S2.lo, .int .i64 S2.hi] 23)
      refine (h3 _ hd).mono ?_
      rintro e w6 ⟨rfl, hb6⟩
      replace C1 := C1.step hb6
      replace C2 := C2.step hb6
      replace hb := hb.trans (hb6.mono hb.size)
      by_cases he : E1 = 0 ∧ E2 = 0 ∧ E3 = 0
      · obtain ⟨e1, e2, e3⟩ := he
        obtain ⟨e4, e5⟩ := HRA.out e1 e2 e3
        clear HRA
        subst e1 e2 e3 e4 e5
        have cC1 := C1.cell
        have cC2 := C2.cell
        have lC1 := C1.lt
        have lC2 := C2.lt
        go_wp2_with fail
        clear cC1 lC1 cC2 lC2
        have C3 := Blk.new w6 23 #[.int .i64 S3.lo, .int .i64 S3.hi]
        replace C1 := C1.alloc (.cells #[.int .i64 S3.lo, .int .i64 S3.hi] 23)
        replace C2 := C2.alloc (.cells #[.int .i64 S3.lo, .int .i64 S3.hi] 23)
        replace hb := hb.alloc hb.size (.cells #[.int .i64 S3.lo, .int .i64 S3.hi] 23)
        refine (h4 _).mono ?_
        rintro e w7 ⟨rfl, hb7⟩
        replace C1 := C1.step hb7
        replace hb := hb.trans (hb7.mono hb.size)
        have cC1 := C1.cell
        have lC1 := C1.lt
        go_wp2_with fail
        clear cC1 lC1
        replace hb := hb.alloc hb.size (.cells #[.int .i64 S4.lo, .int .i64 S4.hi] 23)
        refine (awake_any _).mono ?_
        rintro e wa ⟨rfl, hba⟩
        go_wp2_with fail
        go_ret
        exact ⟨by simp, hb.trans (hba.mono hb.size)⟩
      · have he' : (E1 != 0) = true ∨ ((E1 != 0) = false ∧ (E2 != 0) = true) ∨ ((E1 != 0) = false ∧ (E2 != 0) = false ∧ (E3 != 0) = true) := by simp; omega
        clear he
        rcases he' with e1 | ⟨e1, e2⟩ | ⟨e1, e2, e3⟩
        all_goals (
          have cC1 := C1.cell
          have cC2 := C2.cell
          have lC1 := C1.lt
          have lC2 := C2.lt
          go_wp2_with fail
          clear cC1 lC1 cC2 lC2
          replace hb := hb.alloc hb.size (.cells #[.int .i64 S3.lo, .int .i64 S3.hi] 23)
          refine (awake_any _).mono ?_
          rintro e wa ⟨rfl, hba⟩
          go_wp2_with fail
          go_ret
          exact ⟨by simp, hb.trans (hba.mono hb.size)⟩)
  · have hz : l = [] := List.eq_nil_of_length_eq_zero (by omega)
    have hz0 : l.length = 0 := by omega
    rw [hz0]
    clear hl hlc1 hn2 hpos
    have hn2 : (0 : Int) ≤ 1000 := by omega
    cases oa with
    | none =>
      obtain rfl : cap = 0 := hN rfl
      have hL : ∀ W, RowIn W (.slice none 0 0) 2 encP l := fun W => by rw [hz]; exact RowIn.nil W 2 encP
      have hD : ∀ W, RowIn W (.slice none 0 0) 2 encP (l.drop 0) := hL
      have hT : ∀ W, RowIn W (.slice none 0 0) 2 encP (l.take 0) := fun W => RowIn.nil W 2 encP
      have h1 := fun w h => sumL_any (w := w) (v := .slice none 0 0) (l := l) h
      clear hz HL
      go_enter Try.func12, Try.ntmps12
      go_wp2_with fail
      refine (h1 _ (hL _)).mono ?_
      rintro e w1 ⟨rfl, hb1⟩
      go_wp2_with fail
      have C1 := Blk.new w1 23 #[.int .i64 (sumS l).lo, .int .i64 (sumS l).hi]
      have hb := hb1.alloc hb1.size (.cells #[.int .i64 (sumS l).lo, .int .i64 (sumS l).hi] 23)
      have hgs : w1.heap.size < (w1.alloc (.cells #[.int .i64 (sumS l).lo, .int .i64 (sumS l).hi] 23)).heap.size := by simp
      generalize hg1 : w1.heap.size = g1 at *
      generalize w1.alloc (.cells #[.int .i64 (sumS l).lo, .int .i64 (sumS l).hi] 23) = wA at *
      clear hb1 hg1
      go_cut [8, 9] (fun p e wx => Rot wA (sumS l) (sumE l) p e wx)
      case first =>
        obtain ⟨ti, hi, hz, hsi, hby⟩ := info_of (P := Try.prog) (t := 23) (z := .agg #[.int .i64 0, .int .i64 0]) (size := 2) (bytes := 16) (by kernel_rfl)
        have own0 : ∀ (W : World) (k : Nat), Blk W k 23 #[] → wA.heap.size ≤ k → W.ownsRow wA.heap.size 23 2 (.slice (some ⟨k, 0, none⟩) 0 0) 0 [] := fun W k hk hw =>
          ⟨by simp, .inr ⟨k, 0, #[], rfl, hw, hk, Nat.le_refl _, by simp, by simp, by simp⟩⟩
        have hone : ∀ (m : List Sp), ∀ u ∈ rowOf encP m, u.oneCell' = true := by
          intro m u hu
          unfold rowOf at hu
          obtain ⟨e, _, he⟩ := List.mem_flatMap.1 hu
          simp only [encP, List.mem_cons, List.not_mem_nil, or_false] at he
          rcases he with rfl | rfl <;> rfl
        have ha := Lib.hid (hD wA)
        have hbk := Lib.hid (hT wA)
        have BEa := Blk.new wA.drew 23 #[]
        have BEc : Blk ((wA.drew.alloc (.cells #[] 23)).alloc (.cells #[.int .i64 0, .int .i64 0] 23)) wA.heap.size 23 #[] := BEa.alloc _
        have BEb : Blk ((wA.drew.alloc (.cells #[.int .i64 0, .int .i64 0] 23)).alloc (.cells #[] 23)) (wA.heap.size + 1) 23 #[] := by
          have := Blk.new (wA.drew.alloc (.cells #[.int .i64 0, .int .i64 0] 23)) 23 #[]
          simpa using this
        have hsum : ∀ (w : World) (v : Value), RowIn w v 2 encP (l.drop 0 ++ l.take 0) → Calls Try.prog 22 #[v] w fun e w' => e = .returned (.tuple #[.agg #[.int .i64 (sumS l).lo, .int .i64 (sumS l).hi], .int .i64 (sumE l)]) ∧ Below w.heap.size w w' := fun w v h => by
          have := sumL_any h
          rwa [(sum_rot l 0).1, (sum_rot l 0).2] at this
        have HSUM := Lib.hid hsum
        clear hsum h1
        have Z0 : Blk ((wA.drew.alloc (.cells #[.int .i64 0, .int .i64 0] 23)).alloc (.cells #[] 23)) wA.heap.size 23 #[.int .i64 0, .int .i64 0] := (Blk.new wA.drew 23 #[.int .i64 0, .int .i64 0]).alloc _
        have Z1 : Blk ((wA.drew.alloc (.cells #[] 23)).alloc (.cells #[.int .i64 0, .int .i64 0] 23)) (wA.heap.size + 1) 23 #[.int .i64 0, .int .i64 0] := by
          have := Blk.new (wA.drew.alloc (.cells #[] 23)) 23 #[.int .i64 0, .int .i64 0]
          simpa using this
        go_region_law ((first
          | (refine step_append_any _ (by rfl) _ _ _ (by rfl) wA.heap.size 23 ti _ 2 16 Try.underlying31 hi hz hsi hby (by rfl) (by omega) v1 _ _ (by rfl) (ownsRow_step hown1 (by ((repeat (first | exact Below.refl _ _ | refine Below.drew ?_ | refine Below.alloc ?_ (by first | exact Nat.le_refl _ | omega | (simp only [World.size_alloc, World.size_drew, World.size_setCell]; omega)) _)); first | (fail_if_success (focus skip)) | fail))) _ _ (rowOf encP (l.take 0)) (by rfl) ((hbk.out.step (zb1.trans (Below.mono (w := w1) (B := w1.heap.size) (by ((repeat (first | exact Below.refl _ _ | refine Below.drew ?_ | refine Below.alloc ?_ (by first | exact Nat.le_refl _ | omega | (simp only [World.size_alloc, World.size_drew, World.size_setCell]; omega)) _)); first | (fail_if_success (focus skip)) | fail)) zs1))).src encP_len) (rowOf_length encP_len _) (hone _) (by simp [maxLen]; omega) (by simp; omega) (by have := zs1; first | omega | (simp only [World.size_alloc] <;> omega)) ?_; intro v2 w2 hown2 hgrow2 hat2; have kz2 := Blk.grown kz1 hgrow2 (fun h => hne1 _ h.symm rfl); have zb2 : Below wA.heap.size wA w2 := Below.grown (zb1.trans (Below.mono (w := w1) (B := w1.heap.size) (by ((repeat (first | exact Below.refl _ _ | refine Below.drew ?_ | refine Below.alloc ?_ (by first | exact Nat.le_refl _ | omega | (simp only [World.size_alloc, World.size_drew, World.size_setCell]; omega)) _)); first | (fail_if_success (focus skip)) | fail)) zs1)) hgrow2 (by have := zs1; first | omega | (simp only [World.size_alloc] <;> omega)) hr1; have zs2 := zb2.size; have hown3 : w2.ownsRow wA.heap.size 23 2 v2 (l.drop 0 ++ l.take 0).length ((l.drop 0 ++ l.take 0).flatMap encP) := (by simpa [rowOf] using hown2); clear hown2 hat2)
          | (refine step_append_any _ (by rfl) _ _ _ (by rfl) wA.heap.size 23 ti _ 2 16 Try.underlying31 hi hz hsi hby (by rfl) (by omega) v1 _ _ (by rfl) (ownsRow_step hown1 (by ((repeat (first | exact Below.refl _ _ | refine Below.drew ?_ | refine Below.alloc ?_ (by first | exact Nat.le_refl _ | omega | (simp only [World.size_alloc, World.size_drew, World.size_setCell]; omega)) _)); first | (fail_if_success (focus skip)) | fail))) _ _ (rowOf encP (l.take 0)) (by rfl) ((hbk.out.step (zb1.trans (Below.mono (w := w1) (B := w1.heap.size) (by ((repeat (first | exact Below.refl _ _ | refine Below.drew ?_ | refine Below.alloc ?_ (by first | exact Nat.le_refl _ | omega | (simp only [World.size_alloc, World.size_drew, World.size_setCell]; omega)) _)); first | (fail_if_success (focus skip)) | fail)) zs1))).src encP_len) (rowOf_length encP_len _) (hone _) (by simp [maxLen]; omega) (by simp; omega) (by have := zs1; first | omega | (simp only [World.size_alloc] <;> omega)) ?_; intro v2 w2 hown2 hgrow2 hat2; have kz2 := Blk.grown (Blk.new w1 23 #[.int .i64 0, .int .i64 0]) hgrow2 (fun h => absurd (hlt1 _ h.symm) (Nat.lt_irrefl _)); have zb2 : Below wA.heap.size wA w2 := Below.grown (zb1.trans (Below.mono (w := w1) (B := w1.heap.size) (by ((repeat (first | exact Below.refl _ _ | refine Below.drew ?_ | refine Below.alloc ?_ (by first | exact Nat.le_refl _ | omega | (simp only [World.size_alloc, World.size_drew, World.size_setCell]; omega)) _)); first | (fail_if_success (focus skip)) | fail)) zs1)) hgrow2 (by have := zs1; first | omega | (simp only [World.size_alloc] <;> omega)) hr1; have zs2 := zb2.size; have hown3 : w2.ownsRow wA.heap.size 23 2 v2 (l.drop 0 ++ l.take 0).length ((l.drop 0 ++ l.take 0).flatMap encP) := (by simpa [rowOf] using hown2); clear hown2 hat2)
          | (refine step_append_any _ (by rfl) _ _ _ (by rfl) wA.heap.size 23 ti _ 2 16 Try.underlying31 hi hz hsi hby (by rfl) (by omega) v1 _ _ (by rfl) (ownsRow_step hown1 (by ((repeat (first | exact Below.refl _ _ | refine Below.drew ?_ | refine Below.alloc ?_ (by first | exact Nat.le_refl _ | omega | (simp only [World.size_alloc, World.size_drew, World.size_setCell]; omega)) _)); first | (fail_if_success (focus skip)) | fail))) _ _ (rowOf encP (l.take 0)) (by rfl) ((hbk.out.step (zb1.trans (Below.mono (w := w1) (B := w1.heap.size) (by ((repeat (first | exact Below.refl _ _ | refine Below.drew ?_ | refine Below.alloc ?_ (by first | exact Nat.le_refl _ | omega | (simp only [World.size_alloc, World.size_drew, World.size_setCell]; omega)) _)); first | (fail_if_success (focus skip)) | fail)) zs1))).src encP_len) (rowOf_length encP_len _) (hone _) (by simp [maxLen]; omega) (by simp; omega) (by have := zs1; first | omega | (simp only [World.size_alloc] <;> omega)) ?_; intro v2 w2 hown2 hgrow2 hat2; have zb2 : Below wA.heap.size wA w2 := Below.grown (zb1.trans (Below.mono (w := w1) (B := w1.heap.size) (by ((repeat (first | exact Below.refl _ _ | refine Below.drew ?_ | refine Below.alloc ?_ (by first | exact Nat.le_refl _ | omega | (simp only [World.size_alloc, World.size_drew, World.size_setCell]; omega)) _)); first | (fail_if_success (focus skip)) | fail)) zs1)) hgrow2 (by have := zs1; first | omega | (simp only [World.size_alloc] <;> omega)) hr1; have zs2 := zb2.size; have hown3 : w2.ownsRow wA.heap.size 23 2 v2 (l.drop 0 ++ l.take 0).length ((l.drop 0 ++ l.take 0).flatMap encP) := (by simpa [rowOf] using hown2); clear hown2 hat2)
          | (refine step_append_any _ (by rfl) _ _ _ (by rfl) wA.heap.size 23 ti _ 2 16 Try.underlying31 hi hz hsi hby (by rfl) (by omega) _ 0 [] (by rfl) (own0 _ _ BEb (by simp)) _ _ (rowOf encP (l.drop 0)) (by rfl) ((ha.out.step (by ((repeat (first | exact Below.refl _ _ | refine Below.drew ?_ | refine Below.alloc ?_ (by first | exact Nat.le_refl _ | omega | (simp only [World.size_alloc, World.size_drew, World.size_setCell]; omega)) _)); first | (fail_if_success (focus skip)) | fail))).src encP_len) (rowOf_length encP_len _) (hone _) (by simp [maxLen]; omega) (by simp; omega) (by simp only [World.size_alloc, World.size_drew] <;> omega) ?_; intro v1 w1 hown1 hgrow1 hat1; have kz1 := Blk.grown Z0 hgrow1 (by intro h; simp only [Value.ownBlock, Option.some.injEq, World.size_drew] at h <;> omega); have hr1 : ∀ j, v1.ownBlock = some j → wA.heap.size ≤ j ∧ j ≠ wA.heap.size := (by rintro j hj; rcases hat1 with h | h <;> rw [hj] at h <;> simp only [Value.ownBlock, Option.some.injEq, World.size_alloc, World.size_drew] at h <;> omega); have zb1 : Below wA.heap.size wA w1 := Below.grown (by ((repeat (first | exact Below.refl _ _ | refine Below.drew ?_ | refine Below.alloc ?_ (by first | exact Nat.le_refl _ | omega | (simp only [World.size_alloc, World.size_drew, World.size_setCell]; omega)) _)); first | (fail_if_success (focus skip)) | fail)) hgrow1 (by simp only [World.size_alloc, World.size_drew] <;> omega) (fun j hj => by simp only [Value.ownBlock, Option.some.injEq, World.size_drew] at hj <;> omega); have zs1 := zb1.size; have hlt1 : ∀ j, v1.ownBlock = some j → j < w1.heap.size := own_lt hown1; have hne1 : ∀ j, v1.ownBlock = some j → j ≠ wA.heap.size := (fun j hj => (hr1 j hj).2); replace hr1 : ∀ j, v1.ownBlock = some j → wA.heap.size ≤ j := (fun j hj => (hr1 j hj).1); clear hat1)
          | (refine step_append_any _ (by rfl) _ _ _ (by rfl) wA.heap.size 23 ti _ 2 16 Try.underlying31 hi hz hsi hby (by rfl) (by omega) _ 0 [] (by rfl) (own0 _ _ BEc (by simp)) _ _ (rowOf encP (l.drop 0)) (by rfl) ((ha.out.step (by ((repeat (first | exact Below.refl _ _ | refine Below.drew ?_ | refine Below.alloc ?_ (by first | exact Nat.le_refl _ | omega | (simp only [World.size_alloc, World.size_drew, World.size_setCell]; omega)) _)); first | (fail_if_success (focus skip)) | fail))).src encP_len) (rowOf_length encP_len _) (hone _) (by simp [maxLen]; omega) (by simp; omega) (by simp only [World.size_alloc, World.size_drew] <;> omega) ?_; intro v1 w1 hown1 hgrow1 hat1; have kz1 := Blk.grown Z1 hgrow1 (by intro h; simp only [Value.ownBlock, Option.some.injEq, World.size_drew] at h <;> omega); have hr1 : ∀ j, v1.ownBlock = some j → wA.heap.size ≤ j ∧ j ≠ wA.heap.size + 1 := (by rintro j hj; rcases hat1 with h | h <;> rw [hj] at h <;> simp only [Value.ownBlock, Option.some.injEq, World.size_alloc, World.size_drew] at h <;> omega); have zb1 : Below wA.heap.size wA w1 := Below.grown (by ((repeat (first | exact Below.refl _ _ | refine Below.drew ?_ | refine Below.alloc ?_ (by first | exact Nat.le_refl _ | omega | (simp only [World.size_alloc, World.size_drew, World.size_setCell]; omega)) _)); first | (fail_if_success (focus skip)) | fail)) hgrow1 (by simp only [World.size_alloc, World.size_drew] <;> omega) (fun j hj => by simp only [Value.ownBlock, Option.some.injEq, World.size_drew] at hj <;> omega); have zs1 := zb1.size; have hlt1 : ∀ j, v1.ownBlock = some j → j < w1.heap.size := own_lt hown1; have hne1 : ∀ j, v1.ownBlock = some j → j ≠ wA.heap.size + 1 := (fun j hj => (hr1 j hj).2); replace hr1 : ∀ j, v1.ownBlock = some j → wA.heap.size ≤ j := (fun j hj => (hr1 j hj).1); clear hat1)
          | (refine step_append_any _ (by rfl) _ _ _ (by rfl) wA.heap.size 23 ti _ 2 16 Try.underlying31 hi hz hsi hby (by rfl) (by omega) _ 0 [] (by rfl) (own0 _ _ (BEa.step (by ((repeat (first | exact Below.refl _ _ | refine Below.drew ?_ | refine Below.alloc ?_ (by first | exact Nat.le_refl _ | omega | (simp only [World.size_alloc, World.size_drew, World.size_setCell]; omega)) _)); first | (fail_if_success (focus skip)) | fail))) (by simp)) _ _ (rowOf encP (l.drop 0)) (by rfl) ((ha.out.step (by ((repeat (first | exact Below.refl _ _ | refine Below.drew ?_ | refine Below.alloc ?_ (by first | exact Nat.le_refl _ | omega | (simp only [World.size_alloc, World.size_drew, World.size_setCell]; omega)) _)); first | (fail_if_success (focus skip)) | fail))).src encP_len) (rowOf_length encP_len _) (hone _) (by simp [maxLen]; omega) (by simp; omega) (by simp only [World.size_alloc, World.size_drew] <;> omega) ?_; intro v1 w1 hown1 hgrow1 hat1; have hr1 : ∀ j, v1.ownBlock = some j → wA.heap.size ≤ j := (by rintro j hj; rcases hat1 with h | h <;> rw [hj] at h <;> simp only [Value.ownBlock, Option.some.injEq, World.size_alloc, World.size_drew] at h <;> omega); have zb1 : Below wA.heap.size wA w1 := Below.grown (by ((repeat (first | exact Below.refl _ _ | refine Below.drew ?_ | refine Below.alloc ?_ (by first | exact Nat.le_refl _ | omega | (simp only [World.size_alloc, World.size_drew, World.size_setCell]; omega)) _)); first | (fail_if_success (focus skip)) | fail)) hgrow1 (by simp only [World.size_alloc, World.size_drew] <;> omega) (fun j hj => by simp only [Value.ownBlock, Option.some.injEq, World.size_drew] at hj <;> omega); have zs1 := zb1.size; have hlt1 : ∀ j, v1.ownBlock = some j → j < w1.heap.size := own_lt hown1; clear hat1)
          | (go_simp; go_at_call 22; refine (HSUM.out _ _ (RowIn.of_own encP_len (ownsRow_step hown3 (by ((repeat (first | exact Below.refl _ _ | refine Below.drew ?_ | refine Below.alloc ?_ (by first | exact Nat.le_refl _ | omega | (simp only [World.size_alloc, World.size_drew, World.size_setCell]; omega)) _)); first | (fail_if_success (focus skip)) | fail))))).mono ?_; rintro e w3 ⟨rfl, hb3⟩; have zb3 := (zb2.trans (Below.mono (w := w2) (B := w2.heap.size) (by ((repeat (first | exact Below.refl _ _ | refine Below.drew ?_ | refine Below.alloc ?_ (by first | exact Nat.le_refl _ | omega | (simp only [World.size_alloc, World.size_drew, World.size_setCell]; omega)) _)); first | (fail_if_success (focus skip)) | fail)) zs2)).trans (hb3.mono (by have := zs2; first | omega | (simp only [World.size_alloc] <;> omega))); have zs3 := zb3.size; have kz3 := kz2.step hb3; have kc := kz3.cell; have kf := kz3.free; have kl := kz3.lt)
          | (go_simp; go_at_call 22; refine (HSUM.out _ _ (RowIn.of_own encP_len (ownsRow_step hown3 (by ((repeat (first | exact Below.refl _ _ | refine Below.drew ?_ | refine Below.alloc ?_ (by first | exact Nat.le_refl _ | omega | (simp only [World.size_alloc, World.size_drew, World.size_setCell]; omega)) _)); first | (fail_if_success (focus skip)) | fail))))).mono ?_; rintro e w3 ⟨rfl, hb3⟩; have zb3 := (zb2.trans (Below.mono (w := w2) (B := w2.heap.size) (by ((repeat (first | exact Below.refl _ _ | refine Below.drew ?_ | refine Below.alloc ?_ (by first | exact Nat.le_refl _ | omega | (simp only [World.size_alloc, World.size_drew, World.size_setCell]; omega)) _)); first | (fail_if_success (focus skip)) | fail)) zs2)).trans (hb3.mono (by have := zs2; first | omega | (simp only [World.size_alloc] <;> omega))); have zs3 := zb3.size; have kz3 := (Blk.new w2 23 #[.int .i64 0, .int .i64 0]).step hb3; have kc := kz3.cell; have kf := kz3.free; have kl := kz3.lt)
          | (go_simp; go_at_call 22; refine (HSUM.out _ _ (RowIn.of_own encP_len (ownsRow_step hown3 (by ((repeat (first | exact Below.refl _ _ | refine Below.drew ?_ | refine Below.alloc ?_ (by first | exact Nat.le_refl _ | omega | (simp only [World.size_alloc, World.size_drew, World.size_setCell]; omega)) _)); first | (fail_if_success (focus skip)) | fail))))).mono ?_; rintro e w3 ⟨rfl, hb3⟩; have zb3 := (zb2.trans (Below.mono (w := w2) (B := w2.heap.size) (by ((repeat (first | exact Below.refl _ _ | refine Below.drew ?_ | refine Below.alloc ?_ (by first | exact Nat.le_refl _ | omega | (simp only [World.size_alloc, World.size_drew, World.size_setCell]; omega)) _)); first | (fail_if_success (focus skip)) | fail)) zs2)).trans (hb3.mono (by have := zs2; first | omega | (simp only [World.size_alloc] <;> omega))); have zs3 := zb3.size)))
        all_goals (
          go_wp2_with fail
          go_meet
          first
          | exact ⟨_, rfl, rfl, (zb3.setCell (by dsimp only; omega) _).setCell (by dsimp only; omega) _, by omega, (kz3.put 0 _).put 1 _⟩
          | exact ⟨_, rfl, rfl, zb3.alloc zs3 _, zs3, Blk.new _ _ _⟩)
      case rest =>
        obtain ⟨g, rfl, rfl, hbw, hgw, CR⟩ := hcut
        replace C1 := C1.step hbw
        replace hb := hb.trans (hbw.mono hb.size)
        clear hbw h1
        have h2 := fun w h => sumL_any (w := w) (v := .slice none 0 0) (l := l.take 0) h
        have h3 := fun w h => sumL_any (w := w) (v := .slice none 0 0) (l := l.drop 0) h
        have h4 := fun w => calls2 (add_any (sumS (l.take 0)) (sumS (l.drop 0)) w) (add_same _ _).1 (add_same _ _).2
        have hst := @sum_two l 0
        have hra : sumE l = 0 → sumE (l.take 0) = 0 → sumE (l.drop 0) = 0 → raddE (sumS (l.take 0)) (sumS (l.drop 0)) = 0 ∧ raddS (sumS (l.take 0)) (sumS (l.drop 0)) = sumS l := fun a b c => by
          obtain ⟨v1, v2, v3, v4⟩ := hst a b c
          unfold raddE raddS
          rw [if_pos ⟨v1, v2⟩, if_pos ⟨v1, v2⟩, v3]
          exact ⟨resE_iff.2 v4, resS_of v4⟩
        have HRA := Lib.hid hra
        clear hra hst
        have ht := hT wc
        have hd := hD wc
        generalize sumS l = S1 at *
        generalize sumE l = E1 at *
        generalize sumS (l.take 0) = S2 at *
        generalize sumE (l.take 0) = E2 at *
        generalize sumS (l.drop 0) = S3 at *
        generalize sumE (l.drop 0) = E3 at *
        generalize raddE S2 S3 = E4 at *
        generalize raddS S2 S3 = S4 at *
        have cC1 := C1.cell
        have cCR := CR.cell
        have lC1 := C1.lt
        have lCR := CR.lt
        go_wp2_with fail
        clear cC1 lC1 cCR lCR
        refine (h2 _ ht).mono ?_
        rintro e w5 ⟨rfl, hb5⟩
        replace C1 := C1.step hb5
        replace hd := hd.step hb5
        replace hb := hb.trans (hb5.mono hb.size)
        have cC1 := C1.cell
        have lC1 := C1.lt
        go_wp2_with fail
        clear cC1 lC1
        have C2 := Blk.new w5 23 #[.int .i64 S2.lo, .int .i64 S2.hi]
        replace C1 := C1.alloc (.cells #[.int .i64 S2.lo, .int .i64 S2.hi] 23)
        replace hd := hd.step (Below.alloc (Below.refl _ _) (Nat.le_refl _) (.cells #[.int .i64 S2.lo, .int .i64 S2.hi] 23))
        replace hb := hb.alloc hb.size (.cells #[.int .i64 S2.lo, .int .i64 S2.hi] 23)
        refine (h3 _ hd).mono ?_
        rintro e w6 ⟨rfl, hb6⟩
        replace C1 := C1.step hb6
        replace C2 := C2.step hb6
        replace hb := hb.trans (hb6.mono hb.size)
        by_cases he : E1 = 0 ∧ E2 = 0 ∧ E3 = 0
        · obtain ⟨e1, e2, e3⟩ := he
          obtain ⟨e4, e5⟩ := HRA.out e1 e2 e3
          clear HRA
          subst e1 e2 e3 e4 e5
          have cC1 := C1.cell
          have cC2 := C2.cell
          have lC1 := C1.lt
          have lC2 := C2.lt
          go_wp2_with fail
          clear cC1 lC1 cC2 lC2
          have C3 := Blk.new w6 23 #[.int .i64 S3.lo, .int .i64 S3.hi]
          replace C1 := C1.alloc (.cells #[.int .i64 S3.lo, .int .i64 S3.hi] 23)
          replace C2 := C2.alloc (.cells #[.int .i64 S3.lo, .int .i64 S3.hi] 23)
          replace hb := hb.alloc hb.size (.cells #[.int .i64 S3.lo, .int .i64 S3.hi] 23)
          refine (h4 _).mono ?_
          rintro e w7 ⟨rfl, hb7⟩
          replace C1 := C1.step hb7
          replace hb := hb.trans (hb7.mono hb.size)
          have cC1 := C1.cell
          have lC1 := C1.lt
          go_wp2_with fail
          clear cC1 lC1
          replace hb := hb.alloc hb.size (.cells #[.int .i64 S4.lo, .int .i64 S4.hi] 23)
          refine (awake_any _).mono ?_
          rintro e wa ⟨rfl, hba⟩
          go_wp2_with fail
          go_ret
          exact ⟨by simp, hb.trans (hba.mono hb.size)⟩
        · have he' : (E1 != 0) = true ∨ ((E1 != 0) = false ∧ (E2 != 0) = true) ∨ ((E1 != 0) = false ∧ (E2 != 0) = false ∧ (E3 != 0) = true) := by simp; omega
          clear he
          rcases he' with e1 | ⟨e1, e2⟩ | ⟨e1, e2, e3⟩
          all_goals (
            have cC1 := C1.cell
            have cC2 := C2.cell
            have lC1 := C1.lt
            have lC2 := C2.lt
            go_wp2_with fail
            clear cC1 lC1 cC2 lC2
            replace hb := hb.alloc hb.size (.cells #[.int .i64 S3.lo, .int .i64 S3.hi] 23)
            refine (awake_any _).mono ?_
            rintro e wa ⟨rfl, hba⟩
            go_wp2_with fail
            go_ret
            exact ⟨by simp, hb.trans (hba.mono hb.size)⟩)
    | some ad =>
      have hL : ∀ W, RowIn W (.slice (some ad) 0 cap) 2 encP l := fun W => by rw [hz]; exact ⟨some ad, cap, rfl, Nat.zero_le _, by unfold maxLen; omega, by simp, fun h => absurd rfl h⟩
      have hD : ∀ W, RowIn W (.slice (some ad) 0 cap) 2 encP (l.drop 0) := hL
      have hT : ∀ W, RowIn W (.slice (some ad) 0 cap) 2 encP (l.take 0) := fun W => ⟨some ad, cap, by simp, by simp, by unfold maxLen; omega, by simp, fun h => absurd (by simp) h⟩
      have h1 := fun w h => sumL_any (w := w) (v := .slice (some ad) 0 cap) (l := l) h
      clear hz HL
      go_enter Try.func12, Try.ntmps12
      go_wp2_with fail
      refine (h1 _ (hL _)).mono ?_
      rintro e w1 ⟨rfl, hb1⟩
      go_wp2_with fail
      have C1 := Blk.new w1 23 #[.int .i64 (sumS l).lo, .int .i64 (sumS l).hi]
      have hb := hb1.alloc hb1.size (.cells #[.int .i64 (sumS l).lo, .int .i64 (sumS l).hi] 23)
      have hgs : w1.heap.size < (w1.alloc (.cells #[.int .i64 (sumS l).lo, .int .i64 (sumS l).hi] 23)).heap.size := by simp
      generalize hg1 : w1.heap.size = g1 at *
      generalize w1.alloc (.cells #[.int .i64 (sumS l).lo, .int .i64 (sumS l).hi] 23) = wA at *
      clear hb1 hg1
      go_cut [8, 9] (fun p e wx => Rot wA (sumS l) (sumE l) p e wx)
      case first =>
        obtain ⟨ti, hi, hz, hsi, hby⟩ := info_of (P := Try.prog) (t := 23) (z := .agg #[.int .i64 0, .int .i64 0]) (size := 2) (bytes := 16) (by kernel_rfl)
        have own0 : ∀ (W : World) (k : Nat), Blk W k 23 #[] → wA.heap.size ≤ k → W.ownsRow wA.heap.size 23 2 (.slice (some ⟨k, 0, none⟩) 0 0) 0 [] := fun W k hk hw =>
          ⟨by simp, .inr ⟨k, 0, #[], rfl, hw, hk, Nat.le_refl _, by simp, by simp, by simp⟩⟩
        have hone : ∀ (m : List Sp), ∀ u ∈ rowOf encP m, u.oneCell' = true := by
          intro m u hu
          unfold rowOf at hu
          obtain ⟨e, _, he⟩ := List.mem_flatMap.1 hu
          simp only [encP, List.mem_cons, List.not_mem_nil, or_false] at he
          rcases he with rfl | rfl <;> rfl
        have ha := Lib.hid (hD wA)
        have hbk := Lib.hid (hT wA)
        have BEa := Blk.new wA.drew 23 #[]
        have BEc : Blk ((wA.drew.alloc (.cells #[] 23)).alloc (.cells #[.int .i64 0, .int .i64 0] 23)) wA.heap.size 23 #[] := BEa.alloc _
        have BEb : Blk ((wA.drew.alloc (.cells #[.int .i64 0, .int .i64 0] 23)).alloc (.cells #[] 23)) (wA.heap.size + 1) 23 #[] := by
          have := Blk.new (wA.drew.alloc (.cells #[.int .i64 0, .int .i64 0] 23)) 23 #[]
          simpa using this
        have hsum : ∀ (w : World) (v : Value), RowIn w v 2 encP (l.drop 0 ++ l.take 0) → Calls Try.prog 22 #[v] w fun e w' => e = .returned (.tuple #[.agg #[.int .i64 (sumS l).lo, .int .i64 (sumS l).hi], .int .i64 (sumE l)]) ∧ Below w.heap.size w w' := fun w v h => by
          have := sumL_any h
          rwa [(sum_rot l 0).1, (sum_rot l 0).2] at this
        have HSUM := Lib.hid hsum
        clear hsum h1
        have Z0 : Blk ((wA.drew.alloc (.cells #[.int .i64 0, .int .i64 0] 23)).alloc (.cells #[] 23)) wA.heap.size 23 #[.int .i64 0, .int .i64 0] := (Blk.new wA.drew 23 #[.int .i64 0, .int .i64 0]).alloc _
        have Z1 : Blk ((wA.drew.alloc (.cells #[] 23)).alloc (.cells #[.int .i64 0, .int .i64 0] 23)) (wA.heap.size + 1) 23 #[.int .i64 0, .int .i64 0] := by
          have := Blk.new (wA.drew.alloc (.cells #[] 23)) 23 #[.int .i64 0, .int .i64 0]
          simpa using this
        go_region_law ((first
          | (refine step_append_any _ (by rfl) _ _ _ (by rfl) wA.heap.size 23 ti _ 2 16 Try.underlying31 hi hz hsi hby (by rfl) (by omega) v1 _ _ (by rfl) (ownsRow_step hown1 (by ((repeat (first | exact Below.refl _ _ | refine Below.drew ?_ | refine Below.alloc ?_ (by first | exact Nat.le_refl _ | omega | (simp only [World.size_alloc, World.size_drew, World.size_setCell]; omega)) _)); first | (fail_if_success (focus skip)) | fail))) _ _ (rowOf encP (l.take 0)) (by rfl) ((hbk.out.step (zb1.trans (Below.mono (w := w1) (B := w1.heap.size) (by ((repeat (first | exact Below.refl _ _ | refine Below.drew ?_ | refine Below.alloc ?_ (by first | exact Nat.le_refl _ | omega | (simp only [World.size_alloc, World.size_drew, World.size_setCell]; omega)) _)); first | (fail_if_success (focus skip)) | fail)) zs1))).src encP_len) (rowOf_length encP_len _) (hone _) (by simp [maxLen]; omega) (by simp; omega) (by have := zs1; first | omega | (simp only [World.size_alloc] <;> omega)) ?_; intro v2 w2 hown2 hgrow2 hat2; have kz2 := Blk.grown kz1 hgrow2 (fun h => hne1 _ h.symm rfl); have zb2 : Below wA.heap.size wA w2 := Below.grown (zb1.trans (Below.mono (w := w1) (B := w1.heap.size) (by ((repeat (first | exact Below.refl _ _ | refine Below.drew ?_ | refine Below.alloc ?_ (by first | exact Nat.le_refl _ | omega | (simp only [World.size_alloc, World.size_drew, World.size_setCell]; omega)) _)); first | (fail_if_success (focus skip)) | fail)) zs1)) hgrow2 (by have := zs1; first | omega | (simp only [World.size_alloc] <;> omega)) hr1; have zs2 := zb2.size; have hown3 : w2.ownsRow wA.heap.size 23 2 v2 (l.drop 0 ++ l.take 0).length ((l.drop 0 ++ l.take 0).flatMap encP) := (by simpa [rowOf] using hown2); clear hown2 hat2)
          | (refine step_append_any _ (by rfl) _ _ _ (by rfl) wA.heap.size 23 ti _ 2 16 Try.underlying31 hi hz hsi hby (by rfl) (by omega) v1 _ _ (by rfl) (ownsRow_step hown1 (by ((repeat (first | exact Below.refl _ _ | refine Below.drew ?_ | refine Below.alloc ?_ (by first | exact Nat.le_refl _ | omega | (simp only [World.size_alloc, World.size_drew, World.size_setCell]; omega)) _)); first | (fail_if_success (focus skip)) | fail))) _ _ (rowOf encP (l.take 0)) (by rfl) ((hbk.out.step (zb1.trans (Below.mono (w := w1) (B := w1.heap.size) (by ((repeat (first | exact Below.refl _ _ | refine Below.drew ?_ | refine Below.alloc ?_ (by first | exact Nat.le_refl _ | omega | (simp only [World.size_alloc, World.size_drew, World.size_setCell]; omega)) _)); first | (fail_if_success (focus skip)) | fail)) zs1))).src encP_len) (rowOf_length encP_len _) (hone _) (by simp [maxLen]; omega) (by simp; omega) (by have := zs1; first | omega | (simp only [World.size_alloc] <;> omega)) ?_; intro v2 w2 hown2 hgrow2 hat2; have kz2 := Blk.grown (Blk.new w1 23 #[.int .i64 0, .int .i64 0]) hgrow2 (fun h => absurd (hlt1 _ h.symm) (Nat.lt_irrefl _)); have zb2 : Below wA.heap.size wA w2 := Below.grown (zb1.trans (Below.mono (w := w1) (B := w1.heap.size) (by ((repeat (first | exact Below.refl _ _ | refine Below.drew ?_ | refine Below.alloc ?_ (by first | exact Nat.le_refl _ | omega | (simp only [World.size_alloc, World.size_drew, World.size_setCell]; omega)) _)); first | (fail_if_success (focus skip)) | fail)) zs1)) hgrow2 (by have := zs1; first | omega | (simp only [World.size_alloc] <;> omega)) hr1; have zs2 := zb2.size; have hown3 : w2.ownsRow wA.heap.size 23 2 v2 (l.drop 0 ++ l.take 0).length ((l.drop 0 ++ l.take 0).flatMap encP) := (by simpa [rowOf] using hown2); clear hown2 hat2)
          | (refine step_append_any _ (by rfl) _ _ _ (by rfl) wA.heap.size 23 ti _ 2 16 Try.underlying31 hi hz hsi hby (by rfl) (by omega) v1 _ _ (by rfl) (ownsRow_step hown1 (by ((repeat (first | exact Below.refl _ _ | refine Below.drew ?_ | refine Below.alloc ?_ (by first | exact Nat.le_refl _ | omega | (simp only [World.size_alloc, World.size_drew, World.size_setCell]; omega)) _)); first | (fail_if_success (focus skip)) | fail))) _ _ (rowOf encP (l.take 0)) (by rfl) ((hbk.out.step (zb1.trans (Below.mono (w := w1) (B := w1.heap.size) (by ((repeat (first | exact Below.refl _ _ | refine Below.drew ?_ | refine Below.alloc ?_ (by first | exact Nat.le_refl _ | omega | (simp only [World.size_alloc, World.size_drew, World.size_setCell]; omega)) _)); first | (fail_if_success (focus skip)) | fail)) zs1))).src encP_len) (rowOf_length encP_len _) (hone _) (by simp [maxLen]; omega) (by simp; omega) (by have := zs1; first | omega | (simp only [World.size_alloc] <;> omega)) ?_; intro v2 w2 hown2 hgrow2 hat2; have zb2 : Below wA.heap.size wA w2 := Below.grown (zb1.trans (Below.mono (w := w1) (B := w1.heap.size) (by ((repeat (first | exact Below.refl _ _ | refine Below.drew ?_ | refine Below.alloc ?_ (by first | exact Nat.le_refl _ | omega | (simp only [World.size_alloc, World.size_drew, World.size_setCell]; omega)) _)); first | (fail_if_success (focus skip)) | fail)) zs1)) hgrow2 (by have := zs1; first | omega | (simp only [World.size_alloc] <;> omega)) hr1; have zs2 := zb2.size; have hown3 : w2.ownsRow wA.heap.size 23 2 v2 (l.drop 0 ++ l.take 0).length ((l.drop 0 ++ l.take 0).flatMap encP) := (by simpa [rowOf] using hown2); clear hown2 hat2)
          | (refine step_append_any _ (by rfl) _ _ _ (by rfl) wA.heap.size 23 ti _ 2 16 Try.underlying31 hi hz hsi hby (by rfl) (by omega) _ 0 [] (by rfl) (own0 _ _ BEb (by simp)) _ _ (rowOf encP (l.drop 0)) (by rfl) ((ha.out.step (by ((repeat (first | exact Below.refl _ _ | refine Below.drew ?_ | refine Below.alloc ?_ (by first | exact Nat.le_refl _ | omega | (simp only [World.size_alloc, World.size_drew, World.size_setCell]; omega)) _)); first | (fail_if_success (focus skip)) | fail))).src encP_len) (rowOf_length encP_len _) (hone _) (by simp [maxLen]; omega) (by simp; omega) (by simp only [World.size_alloc, World.size_drew] <;> omega) ?_; intro v1 w1 hown1 hgrow1 hat1; have kz1 := Blk.grown Z0 hgrow1 (by intro h; simp only [Value.ownBlock, Option.some.injEq, World.size_drew] at h <;> omega); have hr1 : ∀ j, v1.ownBlock = some j → wA.heap.size ≤ j ∧ j ≠ wA.heap.size := (by rintro j hj; rcases hat1 with h | h <;> rw [hj] at h <;> simp only [Value.ownBlock, Option.some.injEq, World.size_alloc, World.size_drew] at h <;> omega); have zb1 : Below wA.heap.size wA w1 := Below.grown (by ((repeat (first | exact Below.refl _ _ | refine Below.drew ?_ | refine Below.alloc ?_ (by first | exact Nat.le_refl _ | omega | (simp only [World.size_alloc, World.size_drew, World.size_setCell]; omega)) _)); first | (fail_if_success (focus skip)) | fail)) hgrow1 (by simp only [World.size_alloc, World.size_drew] <;> omega) (fun j hj => by simp only [Value.ownBlock, Option.some.injEq, World.size_drew] at hj <;> omega); have zs1 := zb1.size; have hlt1 : ∀ j, v1.ownBlock = some j → j < w1.heap.size := own_lt hown1; have hne1 : ∀ j, v1.ownBlock = some j → j ≠ wA.heap.size := (fun j hj => (hr1 j hj).2); replace hr1 : ∀ j, v1.ownBlock = some j → wA.heap.size ≤ j := (fun j hj => (hr1 j hj).1); clear hat1)
          | (refine step_append_any _ (by rfl) _ _ _ (by rfl) wA.heap.size 23 ti _ 2 16 Try.underlying31 hi hz hsi hby (by rfl) (by omega) _ 0 [] (by rfl) (own0 _ _ BEc (by simp)) _ _ (rowOf encP (l.drop 0)) (by rfl) ((ha.out.step (by ((repeat (first | exact Below.refl _ _ | refine Below.drew ?_ | refine Below.alloc ?_ (by first | exact Nat.le_refl _ | omega | (simp only [World.size_alloc, World.size_drew, World.size_setCell]; omega)) _)); first | (fail_if_success (focus skip)) | fail))).src encP_len) (rowOf_length encP_len _) (hone _) (by simp [maxLen]; omega) (by simp; omega) (by simp only [World.size_alloc, World.size_drew] <;> omega) ?_; intro v1 w1 hown1 hgrow1 hat1; have kz1 := Blk.grown Z1 hgrow1 (by intro h; simp only [Value.ownBlock, Option.some.injEq, World.size_drew] at h <;> omega); have hr1 : ∀ j, v1.ownBlock = some j → wA.heap.size ≤ j ∧ j ≠ wA.heap.size + 1 := (by rintro j hj; rcases hat1 with h | h <;> rw [hj] at h <;> simp only [Value.ownBlock, Option.some.injEq, World.size_alloc, World.size_drew] at h <;> omega); have zb1 : Below wA.heap.size wA w1 := Below.grown (by ((repeat (first | exact Below.refl _ _ | refine Below.drew ?_ | refine Below.alloc ?_ (by first | exact Nat.le_refl _ | omega | (simp only [World.size_alloc, World.size_drew, World.size_setCell]; omega)) _)); first | (fail_if_success (focus skip)) | fail)) hgrow1 (by simp only [World.size_alloc, World.size_drew] <;> omega) (fun j hj => by simp only [Value.ownBlock, Option.some.injEq, World.size_drew] at hj <;> omega); have zs1 := zb1.size; have hlt1 : ∀ j, v1.ownBlock = some j → j < w1.heap.size := own_lt hown1; have hne1 : ∀ j, v1.ownBlock = some j → j ≠ wA.heap.size + 1 := (fun j hj => (hr1 j hj).2); replace hr1 : ∀ j, v1.ownBlock = some j → wA.heap.size ≤ j := (fun j hj => (hr1 j hj).1); clear hat1)
          | (refine step_append_any _ (by rfl) _ _ _ (by rfl) wA.heap.size 23 ti _ 2 16 Try.underlying31 hi hz hsi hby (by rfl) (by omega) _ 0 [] (by rfl) (own0 _ _ (BEa.step (by ((repeat (first | exact Below.refl _ _ | refine Below.drew ?_ | refine Below.alloc ?_ (by first | exact Nat.le_refl _ | omega | (simp only [World.size_alloc, World.size_drew, World.size_setCell]; omega)) _)); first | (fail_if_success (focus skip)) | fail))) (by simp)) _ _ (rowOf encP (l.drop 0)) (by rfl) ((ha.out.step (by ((repeat (first | exact Below.refl _ _ | refine Below.drew ?_ | refine Below.alloc ?_ (by first | exact Nat.le_refl _ | omega | (simp only [World.size_alloc, World.size_drew, World.size_setCell]; omega)) _)); first | (fail_if_success (focus skip)) | fail))).src encP_len) (rowOf_length encP_len _) (hone _) (by simp [maxLen]; omega) (by simp; omega) (by simp only [World.size_alloc, World.size_drew] <;> omega) ?_; intro v1 w1 hown1 hgrow1 hat1; have hr1 : ∀ j, v1.ownBlock = some j → wA.heap.size ≤ j := (by rintro j hj; rcases hat1 with h | h <;> rw [hj] at h <;> simp only [Value.ownBlock, Option.some.injEq, World.size_alloc, World.size_drew] at h <;> omega); have zb1 : Below wA.heap.size wA w1 := Below.grown (by ((repeat (first | exact Below.refl _ _ | refine Below.drew ?_ | refine Below.alloc ?_ (by first | exact Nat.le_refl _ | omega | (simp only [World.size_alloc, World.size_drew, World.size_setCell]; omega)) _)); first | (fail_if_success (focus skip)) | fail)) hgrow1 (by simp only [World.size_alloc, World.size_drew] <;> omega) (fun j hj => by simp only [Value.ownBlock, Option.some.injEq, World.size_drew] at hj <;> omega); have zs1 := zb1.size; have hlt1 : ∀ j, v1.ownBlock = some j → j < w1.heap.size := own_lt hown1; clear hat1)
          | (go_simp; go_at_call 22; refine (HSUM.out _ _ (RowIn.of_own encP_len (ownsRow_step hown3 (by ((repeat (first | exact Below.refl _ _ | refine Below.drew ?_ | refine Below.alloc ?_ (by first | exact Nat.le_refl _ | omega | (simp only [World.size_alloc, World.size_drew, World.size_setCell]; omega)) _)); first | (fail_if_success (focus skip)) | fail))))).mono ?_; rintro e w3 ⟨rfl, hb3⟩; have zb3 := (zb2.trans (Below.mono (w := w2) (B := w2.heap.size) (by ((repeat (first | exact Below.refl _ _ | refine Below.drew ?_ | refine Below.alloc ?_ (by first | exact Nat.le_refl _ | omega | (simp only [World.size_alloc, World.size_drew, World.size_setCell]; omega)) _)); first | (fail_if_success (focus skip)) | fail)) zs2)).trans (hb3.mono (by have := zs2; first | omega | (simp only [World.size_alloc] <;> omega))); have zs3 := zb3.size; have kz3 := kz2.step hb3; have kc := kz3.cell; have kf := kz3.free; have kl := kz3.lt)
          | (go_simp; go_at_call 22; refine (HSUM.out _ _ (RowIn.of_own encP_len (ownsRow_step hown3 (by ((repeat (first | exact Below.refl _ _ | refine Below.drew ?_ | refine Below.alloc ?_ (by first | exact Nat.le_refl _ | omega | (simp only [World.size_alloc, World.size_drew, World.size_setCell]; omega)) _)); first | (fail_if_success (focus skip)) | fail))))).mono ?_; rintro e w3 ⟨rfl, hb3⟩; have zb3 := (zb2.trans (Below.mono (w := w2) (B := w2.heap.size) (by ((repeat (first | exact Below.refl _ _ | refine Below.drew ?_ | refine Below.alloc ?_ (by first | exact Nat.le_refl _ | omega | (simp only [World.size_alloc, World.size_drew, World.size_setCell]; omega)) _)); first | (fail_if_success (focus skip)) | fail)) zs2)).trans (hb3.mono (by have := zs2; first | omega | (simp only [World.size_alloc] <;> omega))); have zs3 := zb3.size; have kz3 := (Blk.new w2 23 #[.int .i64 0, .int .i64 0]).step hb3; have kc := kz3.cell; have kf := kz3.free; have kl := kz3.lt)
          | (go_simp; go_at_call 22; refine (HSUM.out _ _ (RowIn.of_own encP_len (ownsRow_step hown3 (by ((repeat (first | exact Below.refl _ _ | refine Below.drew ?_ | refine Below.alloc ?_ (by first | exact Nat.le_refl _ | omega | (simp only [World.size_alloc, World.size_drew, World.size_setCell]; omega)) _)); first | (fail_if_success (focus skip)) | fail))))).mono ?_; rintro e w3 ⟨rfl, hb3⟩; have zb3 := (zb2.trans (Below.mono (w := w2) (B := w2.heap.size) (by ((repeat (first | exact Below.refl _ _ | refine Below.drew ?_ | refine Below.alloc ?_ (by first | exact Nat.le_refl _ | omega | (simp only [World.size_alloc, World.size_drew, World.size_setCell]; omega)) _)); first | (fail_if_success (focus skip)) | fail)) zs2)).trans (hb3.mono (by have := zs2; first | omega | (simp only [World.size_alloc] <;> omega))); have zs3 := zb3.size)))
        all_goals (
          go_wp2_with fail
          go_meet
          first
          | exact ⟨_, rfl, rfl, (zb3.setCell (by dsimp only; omega) _).setCell (by dsimp only; omega) _, by omega, (kz3.put 0 _).put 1 _⟩
          | exact ⟨_, rfl, rfl, zb3.alloc zs3 _, zs3, Blk.new _ _ _⟩)
      case rest =>
        obtain ⟨g, rfl, rfl, hbw, hgw, CR⟩ := hcut
        replace C1 := C1.step hbw
        replace hb := hb.trans (hbw.mono hb.size)
        clear hbw h1
        have h2 := fun w h => sumL_any (w := w) (v := .slice (some ad) 0 cap) (l := l.take 0) h
        have h3 := fun w h => sumL_any (w := w) (v := .slice (some ad) 0 cap) (l := l.drop 0) h
        have h4 := fun w => calls2 (add_any (sumS (l.take 0)) (sumS (l.drop 0)) w) (add_same _ _).1 (add_same _ _).2
        have hst := @sum_two l 0
        have hra : sumE l = 0 → sumE (l.take 0) = 0 → sumE (l.drop 0) = 0 → raddE (sumS (l.take 0)) (sumS (l.drop 0)) = 0 ∧ raddS (sumS (l.take 0)) (sumS (l.drop 0)) = sumS l := fun a b c => by
          obtain ⟨v1, v2, v3, v4⟩ := hst a b c
          unfold raddE raddS
          rw [if_pos ⟨v1, v2⟩, if_pos ⟨v1, v2⟩, v3]
          exact ⟨resE_iff.2 v4, resS_of v4⟩
        have HRA := Lib.hid hra
        clear hra hst
        have ht := hT wc
        have hd := hD wc
        generalize sumS l = S1 at *
        generalize sumE l = E1 at *
        generalize sumS (l.take 0) = S2 at *
        generalize sumE (l.take 0) = E2 at *
        generalize sumS (l.drop 0) = S3 at *
        generalize sumE (l.drop 0) = E3 at *
        generalize raddE S2 S3 = E4 at *
        generalize raddS S2 S3 = S4 at *
        have cC1 := C1.cell
        have cCR := CR.cell
        have lC1 := C1.lt
        have lCR := CR.lt
        go_wp2_with fail
        clear cC1 lC1 cCR lCR
        refine (h2 _ ht).mono ?_
        rintro e w5 ⟨rfl, hb5⟩
        replace C1 := C1.step hb5
        replace hd := hd.step hb5
        replace hb := hb.trans (hb5.mono hb.size)
        have cC1 := C1.cell
        have lC1 := C1.lt
        go_wp2_with fail
        clear cC1 lC1
        have C2 := Blk.new w5 23 #[.int .i64 S2.lo, .int .i64 S2.hi]
        replace C1 := C1.alloc (.cells #[.int .i64 S2.lo, .int .i64 S2.hi] 23)
        replace hd := hd.step (Below.alloc (Below.refl _ _) (Nat.le_refl _) (.cells #[.int .i64 S2.lo, .int .i64 S2.hi] 23))
        replace hb := hb.alloc hb.size (.cells #[.int .i64 S2.lo, .int .i64 S2.hi] 23)
        refine (h3 _ hd).mono ?_
        rintro e w6 ⟨rfl, hb6⟩
        replace C1 := C1.step hb6
        replace C2 := C2.step hb6
        replace hb := hb.trans (hb6.mono hb.size)
        by_cases he : E1 = 0 ∧ E2 = 0 ∧ E3 = 0
        · obtain ⟨e1, e2, e3⟩ := he
          obtain ⟨e4, e5⟩ := HRA.out e1 e2 e3
          clear HRA
          subst e1 e2 e3 e4 e5
          have cC1 := C1.cell
          have cC2 := C2.cell
          have lC1 := C1.lt
          have lC2 := C2.lt
          go_wp2_with fail
          clear cC1 lC1 cC2 lC2
          have C3 := Blk.new w6 23 #[.int .i64 S3.lo, .int .i64 S3.hi]
          replace C1 := C1.alloc (.cells #[.int .i64 S3.lo, .int .i64 S3.hi] 23)
          replace C2 := C2.alloc (.cells #[.int .i64 S3.lo, .int .i64 S3.hi] 23)
          replace hb := hb.alloc hb.size (.cells #[.int .i64 S3.lo, .int .i64 S3.hi] 23)
          refine (h4 _).mono ?_
          rintro e w7 ⟨rfl, hb7⟩
          replace C1 := C1.step hb7
          replace hb := hb.trans (hb7.mono hb.size)
          have cC1 := C1.cell
          have lC1 := C1.lt
          go_wp2_with fail
          clear cC1 lC1
          replace hb := hb.alloc hb.size (.cells #[.int .i64 S4.lo, .int .i64 S4.hi] 23)
          refine (awake_any _).mono ?_
          rintro e wa ⟨rfl, hba⟩
          go_wp2_with fail
          go_ret
          exact ⟨by simp, hb.trans (hba.mono hb.size)⟩
        · have he' : (E1 != 0) = true ∨ ((E1 != 0) = false ∧ (E2 != 0) = true) ∨ ((E1 != 0) = false ∧ (E2 != 0) = false ∧ (E3 != 0) = true) := by simp; omega
          clear he
          rcases he' with e1 | ⟨e1, e2⟩ | ⟨e1, e2, e3⟩
          all_goals (
            have cC1 := C1.cell
            have cC2 := C2.cell
            have lC1 := C1.lt
            have lC2 := C2.lt
            go_wp2_with fail
            clear cC1 lC1 cC2 lC2
            replace hb := hb.alloc hb.size (.cells #[.int .i64 S3.lo, .int .i64 S3.hi] 23)
            refine (awake_any _).mono ?_
            rintro e wa ⟨rfl, hba⟩
            go_wp2_with fail
            go_ret
            exact ⟨by simp, hb.trans (hba.mono hb.size)⟩)

end Go.Proofs.Ytpclhjkamplmbaa
