/- Contracts: the two conditions of True, and True itself. -/
import Derived.Test.YtapfihlfnaebhaaScaleE
namespace Go.Proofs.Ytapfihlfnaebhaa
set_option linter.unusedVariables false
set_option linter.unusedSimpArgs false
open Go.RowKit

/-- The three variables that the conditions of True capture. -/
structure Capt (w : World) (b0 b1 b2 : Nat) (sa sb sc sd se sf n t : Int) : Prop where
  c0 : w.cell? ⟨b0, 0, none⟩ = some (.int .i64 sa)
  c1 : w.cell? ⟨b0, 1, none⟩ = some (.int .i64 sb)
  c2 : w.cell? ⟨b0, 2, none⟩ = some (.int .i64 sc)
  c3 : w.cell? ⟨b0, 3, none⟩ = some (.int .i64 sd)
  c4 : w.cell? ⟨b0, 4, none⟩ = some (.int .i64 se)
  c5 : w.cell? ⟨b0, 5, none⟩ = some (.int .i64 sf)
  n0 : w.cell? ⟨b1, 0, none⟩ = some (.int .i64 n)
  t0 : w.cell? ⟨b2, 0, none⟩ = some (.int .i64 t)

theorem Capt.below {w w' : World} {b0 b1 b2 : Nat} {sa sb sc sd se sf n t : Int} (h : Capt w b0 b1 b2 sa sb sc sd se sf n t) {B : Nat} (hb : Below B w w') (h0 : b0 < B) (h1 : b1 < B) (h2 : b2 < B) : Capt w' b0 b1 b2 sa sb sc sd se sf n t :=
  ⟨(hb.cell (p := ⟨b0, 0, none⟩) h0).trans h.c0, (hb.cell (p := ⟨b0, 1, none⟩) h0).trans h.c1, (hb.cell (p := ⟨b0, 2, none⟩) h0).trans h.c2, (hb.cell (p := ⟨b0, 3, none⟩) h0).trans h.c3,
   (hb.cell (p := ⟨b0, 4, none⟩) h0).trans h.c4, (hb.cell (p := ⟨b0, 5, none⟩) h0).trans h.c5, (hb.cell (p := ⟨b1, 0, none⟩) h1).trans h.n0, (hb.cell (p := ⟨b2, 0, none⟩) h2).trans h.t0⟩

set_option maxHeartbeats 400000 in
theorem true1_any (b0 b1 b2 : Nat) (sa sb sc sd se sf m n t : Int) (w : World) (hc : Capt w b0 b1 b2 sa sb sc sd se sf n t) (hV : SV sa sb sc sd se sf) (hm : 0 ≤ m) (hm' : m ≤ 1073741824) (hn : 0 ≤ n) (hn' : n ≤ 1073741824) (ht0 : 0 ≤ t) (ht : t ≤ 3155759999) (hft : sf ≤ t) :
    Calls Try.prog 29 #[.int .i64 m, .pointer (some ⟨b0, 0, none⟩), .pointer (some ⟨b1, 0, none⟩), .pointer (some ⟨b2, 0, none⟩)] w fun e w' => e = .returned (.bool (nearB sa sc sd se sf m n t)) ∧ Below w.heap.size w w' := by
  obtain ⟨c0, c1, c2, c3, c4, c5, n0, t0⟩ := hc
  go_enter Try.func29, Try.ntmps29
  go_wp2_with (go_at_call 30; refine (near_any _ _ _ _ _ _ _ _ _ _ hV hm hm' hn hn' ht0 ht hft).mono ?_; rintro e w1 ⟨rfl, hb1⟩)
  go_ret
  exact ⟨by simp, hb1⟩

set_option maxHeartbeats 400000 in
theorem true2_any (b0 b1 b2 : Nat) (sa sb sc sd se sf m n t : Int) (w : World) (hc : Capt w b0 b1 b2 sa sb sc sd se sf n t) (hV : SV sa sb sc sd se sf) (hm : 0 ≤ m) (hm' : m ≤ 1073741824) (hn : 0 ≤ n) (hn' : n ≤ 1073741824) (ht0 : 0 ≤ t) (ht : t ≤ 3155759999) (hft : sf ≤ t) :
    Calls Try.prog 31 #[.int .i64 m, .pointer (some ⟨b0, 0, none⟩), .pointer (some ⟨b1, 0, none⟩), .pointer (some ⟨b2, 0, none⟩)] w fun e w' => e = .returned (.bool (!nearB sa sc sd se sf m n t)) ∧ Below w.heap.size w w' := by
  obtain ⟨c0, c1, c2, c3, c4, c5, n0, t0⟩ := hc
  go_enter Try.func31, Try.ntmps31
  go_wp2_with (go_at_call 30; refine (near_any _ _ _ _ _ _ _ _ _ _ hV hm hm' hn hn' ht0 ht hft).mono ?_; rintro e w1 ⟨rfl, hb1⟩)
  all_goals go_ret
  all_goals exact ⟨by simp, hb1⟩

set_option maxHeartbeats 1000000 in
theorem true_ok (sa sb sc sd se sf n t : Int) (w : World) (hV : SV sa sb sc sd se sf) (hs : shw sa sb n = true) (ht0 : 0 ≤ t) (ht : t ≤ 3155759999) (hft : sf ≤ t) :
    Calls Try.prog 9 #[.agg #[.int .i64 sa, .int .i64 sb, .int .i64 sc, .int .i64 sd, .int .i64 se, .int .i64 sf], .int .i64 n, .int .i64 t] w fun e w' => e = .returned (.tuple #[.agg #[.int .i64 (tlo sa sc sd se sf n t), .int .i64 (thi sa sc sd se sf n t)], .int .i64 0]) ∧ Below w.heap.size w w' := by
  have hk : chk sa sb sc sd se sf = 0 := chk_ok.2 hV
  have h1 : 1 ≤ sa := hV.a1
  obtain ⟨n1, n2⟩ := shw_bd hs
  have n3 : n ≤ 1073741824 := by have := hV.b2; omega
  have hbt : btw 0 t 3155759999 = true := by simp [btw, *]
  go_enter Try.func9, Try.ntmps9
  go_wp2_with (first
    | (go_at_call 25; refine (check_any _ _ _ _ _ _ _).mono ?_; rintro e w1 ⟨rfl, hb1⟩; obtain ⟨hc1, hz1⟩ := bcell hb1; have hs1 : w.heap.size < w1.heap.size := (by have hq := hb1.size; (try simp only [World.size_alloc] at hq); omega); have hs1x1 : w.heap.size + 1 < w1.heap.size := (by have hq := hb1.size; (try simp only [World.size_alloc] at hq); omega); have hs1x2 : w.heap.size + 2 < w1.heap.size := (by have hq := hb1.size; (try simp only [World.size_alloc] at hq); omega); have hs1x3 : w.heap.size + 3 < w1.heap.size := (by have hq := hb1.size; (try simp only [World.size_alloc] at hq); omega))
    | (go_at_call 26; refine (shw_any _ _ _ _ _ _ _ _ h1).mono ?_; rintro e w2 ⟨rfl, hb2⟩; obtain ⟨hc2, hz2⟩ := bcell hb2; have hs2 : w.heap.size < w2.heap.size := (by have hq := hb2.size; (try simp only [World.size_alloc] at hq); omega); have hs2x1 : w.heap.size + 1 < w2.heap.size := (by have hq := hb2.size; (try simp only [World.size_alloc] at hq); omega); have hs2x2 : w.heap.size + 2 < w2.heap.size := (by have hq := hb2.size; (try simp only [World.size_alloc] at hq); omega); have hs2x3 : w.heap.size + 3 < w2.heap.size := (by have hq := hb2.size; (try simp only [World.size_alloc] at hq); omega))
    | (go_at_call 27; refine (between_any _ _ _ _).mono ?_; rintro e w' ⟨rfl, rfl⟩))
  have hcap : Capt w2 w.heap.size (w.heap.size + 1) (w.heap.size + 2) sa sb sc sd se sf n t := by
    constructor <;> (rw [hc2 _ _ (by omega), hc1 _ _ (by simp only [World.size_alloc]; omega)]; simp [go_sem])
  refine (first_t1 0 n _ _ _ (fun m => nearB sa sc sd se sf m n t) w2 (Int.le_refl _) (by omega) n3
    (fun m w' hb h0 h1 => true1_any _ _ _ _ _ _ _ _ _ m n t w' (hcap.below hb (by omega) (by omega) (by omega)) hV h0 (by omega) n1 n3 ht0 ht hft)).mono ?_
  rintro e w3 ⟨x, rfl, hx, hb3⟩
  have HX := Lib.hid hx
  clear hx
  obtain ⟨hc3, hz3⟩ := bcell hb3
  have hs3 : w.heap.size + 3 < w3.heap.size := by have := hb3.size; omega
  have hcap3 := hcap.below hb3 (by omega) (by omega) (by omega)
  go_wp2_with fail
  refine (first_t2 n 1073741824 _ _ _ (fun m => !nearB sa sc sd se sf m n t) w3 n1 (by omega) (Int.le_refl _)
    (fun m w' hb h0 h1 => true2_any _ _ _ _ _ _ _ _ _ m n t w' (hcap3.below hb (by omega) (by omega) (by omega)) hV (by omega) h1 n1 n3 ht0 ht hft)).mono ?_
  rintro e w4 ⟨y, rfl, hy, hb4⟩
  have hx := HX.out
  have HT := Lib.hid (tSpan_eq (true_of_first hV n1 n3 ht hft hx hy))
  obtain ⟨y1, y2, _, _⟩ := hy
  clear hx
  obtain ⟨hc4, hz4⟩ := bcell hb4
  have hs4 : w.heap.size + 3 < w4.heap.size := by have := hb4.size; omega
  go_wp2_with fail
  rw [HT.out.1, HT.out.2]
  refine bodyPost_ret (v := .tuple #[.agg #[.int .i64 x, .int .i64 (y - 1)], .int .i64 0]) (by simp only [results, Try.results9]; go_simp) rfl ⟨rfl, ?_⟩
  exact (((((((((Below.refl _ _).alloc (Nat.le_refl _) _).alloc (by simp) _).alloc (by simp; omega) _).alloc (by simp; omega) _).trans (hb1.mono (by simp; omega))).trans (hb2.mono (by omega))).trans (hb3.mono (by omega))).trans (hb4.mono (by omega))).setCell (by simp; omega) _ |>.setCell (by simp; omega) _

end Go.Proofs.Ytapfihlfnaebhaa
