/- Contracts: True with an error; the reference's search and its True. -/
import Derived.Test.YtapfihlfnaebhaaScaleF
namespace Go.Proofs.Ytapfihlfnaebhaa
set_option linter.unusedVariables false
set_option linter.unusedSimpArgs false
open Go.RowKit


set_option maxHeartbeats 1000000 in
theorem true_no (sa sb sc sd se sf n t : Int) (w : World) (hn : trn sa sb sc sd se sf n t ≠ 0) :
    Calls Try.prog 9 #[.agg #[.int .i64 sa, .int .i64 sb, .int .i64 sc, .int .i64 sd, .int .i64 se, .int .i64 sf], .int .i64 n, .int .i64 t] w fun e w' => e = .returned (.tuple #[.agg #[.int .i64 0, .int .i64 0], .int .i64 (trn sa sb sc sd se sf n t)]) ∧ Below w.heap.size w w' := by
  have HN := Lib.hid hn
  clear hn
  by_cases hk : chk sa sb sc sd se sf = 0
  case neg =>
    have hk' := (chk_01 sa sb sc sd se sf).resolve_left hk
    have he : trn sa sb sc sd se sf n t = 1 := by simp [trn, hk]
    rw [he]
    clear he hk
    go_enter Try.func9, Try.ntmps9
    go_wp2_with (go_at_call 25; refine (check_any _ _ _ _ _ _ _).mono ?_; rintro e w1 ⟨rfl, hb1⟩; obtain ⟨hc1, hz1⟩ := bcell hb1; have hs1 : w.heap.size < w1.heap.size := (by have hq := hb1.size; (try simp only [World.size_alloc] at hq); omega); have hs1x1 : w.heap.size + 1 < w1.heap.size := (by have hq := hb1.size; (try simp only [World.size_alloc] at hq); omega); have hs1x2 : w.heap.size + 2 < w1.heap.size := (by have hq := hb1.size; (try simp only [World.size_alloc] at hq); omega); have hs1x3 : w.heap.size + 3 < w1.heap.size := (by have hq := hb1.size; (try simp only [World.size_alloc] at hq); omega))
    refine bodyPost_ret (v := .tuple #[.agg #[.int .i64 0, .int .i64 0], .int .i64 1]) (by simp only [results, Try.results9]; go_simp) rfl ⟨by first | rfl | simp [trlo, trhi, *], ?_⟩
    (repeat (first | exact Below.refl _ _ | refine Below.setCell ?_ (by first | omega | (simp; done) | (simp; omega) | (simp only [World.size_alloc, World.size_setCell] at *; omega)) _ | refine Below.alloc ?_ (by first | omega | (simp; done) | (simp; omega) | (simp only [World.size_alloc, World.size_setCell] at *; omega)) _ | refine Below.trans ?_ (Below.mono (by assumption) (by first | omega | (simp; done) | (simp; omega) | (simp only [World.size_alloc, World.size_setCell] at *; omega)))))
  have h1 : 1 ≤ sa := (chk_ok.1 hk).a1
  by_cases hs : shw sa sb n = true
  case neg =>
    have hs := eq_false_of_ne_true hs
    have he : trn sa sb sc sd se sf n t = 1 := by simp [trn, hs]
    rw [he]
    clear he
    go_enter Try.func9, Try.ntmps9
    go_wp2_with (first
    | (go_at_call 25; refine (check_any _ _ _ _ _ _ _).mono ?_; rintro e w1 ⟨rfl, hb1⟩; obtain ⟨hc1, hz1⟩ := bcell hb1; have hs1 : w.heap.size < w1.heap.size := (by have hq := hb1.size; (try simp only [World.size_alloc] at hq); omega); have hs1x1 : w.heap.size + 1 < w1.heap.size := (by have hq := hb1.size; (try simp only [World.size_alloc] at hq); omega); have hs1x2 : w.heap.size + 2 < w1.heap.size := (by have hq := hb1.size; (try simp only [World.size_alloc] at hq); omega); have hs1x3 : w.heap.size + 3 < w1.heap.size := (by have hq := hb1.size; (try simp only [World.size_alloc] at hq); omega))
    | (go_at_call 26; refine (shw_any _ _ _ _ _ _ _ _ h1).mono ?_; rintro e w2 ⟨rfl, hb2⟩; obtain ⟨hc2, hz2⟩ := bcell hb2; have hs2 : w.heap.size < w2.heap.size := (by have hq := hb2.size; (try simp only [World.size_alloc] at hq); omega); have hs2x1 : w.heap.size + 1 < w2.heap.size := (by have hq := hb2.size; (try simp only [World.size_alloc] at hq); omega); have hs2x2 : w.heap.size + 2 < w2.heap.size := (by have hq := hb2.size; (try simp only [World.size_alloc] at hq); omega); have hs2x3 : w.heap.size + 3 < w2.heap.size := (by have hq := hb2.size; (try simp only [World.size_alloc] at hq); omega))
    | (go_at_call 27; refine (between_any _ _ _ _).mono ?_; rintro e w' ⟨rfl, rfl⟩))
    refine bodyPost_ret (v := .tuple #[.agg #[.int .i64 0, .int .i64 0], .int .i64 1]) (by simp only [results, Try.results9]; go_simp) rfl ⟨by first | rfl | simp [trlo, trhi, *], ?_⟩
    (repeat (first | exact Below.refl _ _ | refine Below.setCell ?_ (by first | omega | (simp; done) | (simp; omega) | (simp only [World.size_alloc, World.size_setCell] at *; omega)) _ | refine Below.alloc ?_ (by first | omega | (simp; done) | (simp; omega) | (simp only [World.size_alloc, World.size_setCell] at *; omega)) _ | refine Below.trans ?_ (Below.mono (by assumption) (by first | omega | (simp; done) | (simp; omega) | (simp only [World.size_alloc, World.size_setCell] at *; omega)))))
  by_cases ht : btw 0 t 3155759999 = true
  case neg =>
    have ht := eq_false_of_ne_true ht
    have he : trn sa sb sc sd se sf n t = 1 := by simp [btw] at ht; simp only [trn]; rw [if_pos (by omega)]
    rw [he]
    clear he
    go_enter Try.func9, Try.ntmps9
    go_wp2_with (first
    | (go_at_call 25; refine (check_any _ _ _ _ _ _ _).mono ?_; rintro e w1 ⟨rfl, hb1⟩; obtain ⟨hc1, hz1⟩ := bcell hb1; have hs1 : w.heap.size < w1.heap.size := (by have hq := hb1.size; (try simp only [World.size_alloc] at hq); omega); have hs1x1 : w.heap.size + 1 < w1.heap.size := (by have hq := hb1.size; (try simp only [World.size_alloc] at hq); omega); have hs1x2 : w.heap.size + 2 < w1.heap.size := (by have hq := hb1.size; (try simp only [World.size_alloc] at hq); omega); have hs1x3 : w.heap.size + 3 < w1.heap.size := (by have hq := hb1.size; (try simp only [World.size_alloc] at hq); omega))
    | (go_at_call 26; refine (shw_any _ _ _ _ _ _ _ _ h1).mono ?_; rintro e w2 ⟨rfl, hb2⟩; obtain ⟨hc2, hz2⟩ := bcell hb2; have hs2 : w.heap.size < w2.heap.size := (by have hq := hb2.size; (try simp only [World.size_alloc] at hq); omega); have hs2x1 : w.heap.size + 1 < w2.heap.size := (by have hq := hb2.size; (try simp only [World.size_alloc] at hq); omega); have hs2x2 : w.heap.size + 2 < w2.heap.size := (by have hq := hb2.size; (try simp only [World.size_alloc] at hq); omega); have hs2x3 : w.heap.size + 3 < w2.heap.size := (by have hq := hb2.size; (try simp only [World.size_alloc] at hq); omega))
    | (go_at_call 27; refine (between_any _ _ _ _).mono ?_; rintro e w' ⟨rfl, rfl⟩))
    refine bodyPost_ret (v := .tuple #[.agg #[.int .i64 0, .int .i64 0], .int .i64 1]) (by simp only [results, Try.results9]; go_simp) rfl ⟨by first | rfl | simp [trlo, trhi, *], ?_⟩
    (repeat (first | exact Below.refl _ _ | refine Below.setCell ?_ (by first | omega | (simp; done) | (simp; omega) | (simp only [World.size_alloc, World.size_setCell] at *; omega)) _ | refine Below.alloc ?_ (by first | omega | (simp; done) | (simp; omega) | (simp only [World.size_alloc, World.size_setCell] at *; omega)) _ | refine Below.trans ?_ (Below.mono (by assumption) (by first | omega | (simp; done) | (simp; omega) | (simp only [World.size_alloc, World.size_setCell] at *; omega)))))
  have ht' := ht
  simp [btw] at ht'
  have hlt : t < sf := by
    have hn := HN.out
    unfold trn at hn
    split at hn
    · rename_i h; simp [hk, hs] at h; omega
    · split at hn <;> omega
  have he : trn sa sb sc sd se sf n t = 9 := by simp only [trn]; rw [if_neg (by simp [hk, hs]; omega), if_pos hlt]
  rw [he]
  clear he
  go_enter Try.func9, Try.ntmps9
  go_wp2_with (first
    | (go_at_call 25; refine (check_any _ _ _ _ _ _ _).mono ?_; rintro e w1 ⟨rfl, hb1⟩; obtain ⟨hc1, hz1⟩ := bcell hb1; have hs1 : w.heap.size < w1.heap.size := (by have hq := hb1.size; (try simp only [World.size_alloc] at hq); omega); have hs1x1 : w.heap.size + 1 < w1.heap.size := (by have hq := hb1.size; (try simp only [World.size_alloc] at hq); omega); have hs1x2 : w.heap.size + 2 < w1.heap.size := (by have hq := hb1.size; (try simp only [World.size_alloc] at hq); omega); have hs1x3 : w.heap.size + 3 < w1.heap.size := (by have hq := hb1.size; (try simp only [World.size_alloc] at hq); omega))
    | (go_at_call 26; refine (shw_any _ _ _ _ _ _ _ _ h1).mono ?_; rintro e w2 ⟨rfl, hb2⟩; obtain ⟨hc2, hz2⟩ := bcell hb2; have hs2 : w.heap.size < w2.heap.size := (by have hq := hb2.size; (try simp only [World.size_alloc] at hq); omega); have hs2x1 : w.heap.size + 1 < w2.heap.size := (by have hq := hb2.size; (try simp only [World.size_alloc] at hq); omega); have hs2x2 : w.heap.size + 2 < w2.heap.size := (by have hq := hb2.size; (try simp only [World.size_alloc] at hq); omega); have hs2x3 : w.heap.size + 3 < w2.heap.size := (by have hq := hb2.size; (try simp only [World.size_alloc] at hq); omega))
    | (go_at_call 27; refine (between_any _ _ _ _).mono ?_; rintro e w' ⟨rfl, rfl⟩))
  refine bodyPost_ret (v := .tuple #[.agg #[.int .i64 0, .int .i64 0], .int .i64 9]) (by simp only [results, Try.results9]; go_simp) rfl ⟨by first | rfl | simp [trlo, trhi, *], ?_⟩
  (repeat (first | exact Below.refl _ _ | refine Below.setCell ?_ (by first | omega | (simp; done) | (simp; omega) | (simp only [World.size_alloc, World.size_setCell] at *; omega)) _ | refine Below.alloc ?_ (by first | omega | (simp; done) | (simp; omega) | (simp only [World.size_alloc, World.size_setCell] at *; omega)) _ | refine Below.trans ?_ (Below.mono (by assumption) (by first | omega | (simp; done) | (simp; omega) | (simp only [World.size_alloc, World.size_setCell] at *; omega)))))

theorem true_any (sa sb sc sd se sf n t : Int) (w : World) :
    Calls Try.prog 9 #[.agg #[.int .i64 sa, .int .i64 sb, .int .i64 sc, .int .i64 sd, .int .i64 se, .int .i64 sf], .int .i64 n, .int .i64 t] w fun e w' => e = .returned (.tuple #[.agg #[.int .i64 (trlo sa sb sc sd se sf n t), .int .i64 (trhi sa sb sc sd se sf n t)], .int .i64 (trn sa sb sc sd se sf n t)]) ∧ Below w.heap.size w w' := by
  by_cases hn : trn sa sb sc sd se sf n t = 0
  · obtain ⟨hV, hs, ht0, ht, hft⟩ := trn_ok.1 hn
    simp only [trlo, trhi, hn, if_true]
    exact true_ok _ _ _ _ _ _ _ _ _ hV hs ht0 ht hft
  · simp only [trlo, trhi, hn, if_false]
    exact true_no _ _ _ _ _ _ _ _ _ hn

end Go.Proofs.Ytapfihlfnaebhaa
