/- Contracts: True of the reference. -/
import Derived.Test.YtapfihlfnaebhaaScaleH
import Derived.Deep.RegionHeld3
namespace Go.Proofs.Ytapfihlfnaebhaa
set_option linter.unusedVariables false
set_option linter.unusedSimpArgs false
open Go.RowKit


theorem cld_near {a b c d e f m n t : Int} (hV : SV a b c d e f) (hs : shw a b n = true) (ht0 : 0 ≤ t) (ht : t ≤ 3155759999) (hft : f ≤ t) (hm : 0 ≤ m) (hm' : m ≤ 1073741824) :
    cld a b c d e f m n t = nearB a c d e f m n t := by
  simp [cld, hs, errn_ok.2 ⟨hV, hm, hm', ht0, ht, hft⟩]

set_option maxHeartbeats 400000 in
theorem rtrue_ok (sa sb sc sd se sf n t : Int) (w : World) (hV : SV sa sb sc sd se sf) (hs : shw sa sb n = true) (ht0 : 0 ≤ t) (ht : t ≤ 3155759999) (hft : sf ≤ t) :
    Calls Try.prog 60 #[.agg #[.int .i64 sa, .int .i64 sb, .int .i64 sc, .int .i64 sd, .int .i64 se, .int .i64 sf], .int .i64 n, .int .i64 t] w fun e w' => e = .returned (.tuple #[.agg #[.int .i64 (tlo sa sc sd se sf n t), .int .i64 (thi sa sc sd se sf n t)], .int .i64 0]) ∧ Below w.heap.size w w' := by
  have hk : chk sa sb sc sd se sf = 0 := chk_ok.2 hV
  have h1 : 1 ≤ sa := hV.a1
  obtain ⟨n1, n2⟩ := shw_bd hs
  have n3 : n ≤ 1073741824 := by have := hV.b2; omega
  have hmom : mom sa sb sc sd se sf t = 0 := by simp [mom, hk]; omega
  have hT := tSpan_is (c := sc) (e := se) hV n1 n3 ht hft
  obtain ⟨T1, T2, T3, T4, T5⟩ := hT
  have hdown : ∀ d, 0 ≤ d → d ≤ n → cld sa sb sc sd se sf (n + (-1) * d) n t = decide (d ≤ n - tlo sa sc sd se sf n t) := fun d h0 h1 => by
    rw [cld_near hV hs ht0 ht hft (by omega) (by omega), Bool.eq_iff_iff, T5 _ (by omega) (by omega)]
    simp; omega
  have hup : ∀ d, 0 ≤ d → d ≤ 1073741824 - n → cld sa sb sc sd se sf (n + 1 * d) n t = decide (d ≤ thi sa sc sd se sf n t - n) := fun d h0 h1 => by
    rw [cld_near hV hs ht0 ht hft (by omega) (by omega), Bool.eq_iff_iff, T5 _ (by omega) (by omega)]
    simp; omega
  have HD := Lib.hid hdown
  have HU := Lib.hid hup
  clear hdown hup T5
  generalize htl : tlo sa sc sd se sf n t = tl at *
  generalize hth : thi sa sc sd se sf n t = th at *
  clear htl hth
  have B0 := (Blk.new w 23 #[.int .i64 sa, .int .i64 sb, .int .i64 sc, .int .i64 sd, .int .i64 se, .int .i64 sf]).alloc (.cells #[.int .i64 0, .int .i64 0] 32)
  have B1 := Blk.new (w.alloc (.cells #[.int .i64 sa, .int .i64 sb, .int .i64 sc, .int .i64 sd, .int .i64 se, .int .i64 sf] 23)) 32 #[.int .i64 0, .int .i64 0]
  have c0 := B0.cell
  have c1 := B1.cell
  simp only [World.size_alloc] at B1 c1
  go_enter Try.func60, Try.ntmps60
  go_wp2_with (first
    | (go_at_call 6; refine (rcheck_any _ _ _ _ _ _ _).mono ?_; rintro e w1 ⟨rfl, hb1⟩; replace B0 := B0.step hb1; clear c0; have c0 := B0.cell; replace B1 := B1.step hb1; clear c1; have c1 := B1.cell)
    | (go_at_call 24; refine (showable_any _ _ _ _ _ _ _ _ h1).mono ?_; rintro e w2 ⟨rfl, hb2⟩; replace B0 := B0.step hb2; clear c0; have c0 := B0.cell; replace B1 := B1.step hb2; clear c1; have c1 := B1.cell)
    | (go_at_call 56; refine (moment_any _ _ _ _ _ _ _ _).mono ?_; rintro e w3 ⟨rfl, hb3⟩; replace B0 := B0.step hb3; clear c0; have c0 := B0.cell; replace B1 := B1.step hb3; clear c1; have c1 := B1.cell))
  have hx : ∀ x : BW w3, ∀ o, x.w.cell? ⟨w.heap.size, o, none⟩ = #[.int .i64 sa, .int .i64 sb, .int .i64 sc, .int .i64 sd, .int .i64 se, .int .i64 sf][o]? := fun x => (B0.bw x).cell
  refine wp_region_calm_tail 16 (by kernel_rfl) (by kernel_rfl) ?_
  simp only [List.take_succ_cons, List.take_zero, List.drop_succ_cons, List.drop_zero]
  repeat (go_big_quiet_step (fail))
  go_big_quiet_want; go_big_quiet_op; go_big_quiet_call (exact calls_bw (fun w => reach_down _ _ _ _ _ _ n t n (n - tl) w n1 n3 n1 n3 (Int.le_refl _) (by omega) (by omega) HD.out) _)
  repeat (go_big_quiet_step (fail))
  go_big_quiet_want; go_big_quiet_op; go_big_quiet_call (exact calls_bw (fun w => reach_up _ _ _ _ _ _ n t (1073741824 - n) (th - n) w (by omega) (by omega) n1 n3 (by omega) (by omega) (by omega) HU.out) _)
  repeat (go_big_quiet_step (fail))
  first | refine wpQuiet_nil ?_ | skip
  intro w4 hb4
  replace B1 := B1.step hb4
  clear c1 c0
  have c1 := B1.cell
  have f1 := B1.free
  have l1 := B1.lt
  go_wp2
  refine bodyPost_ret (v := .tuple #[.agg #[.int .i64 tl, .int .i64 th], .int .i64 0]) (by simp only [results, Try.results60]; go_simp; omega) rfl ⟨rfl, ?_⟩
  have z1 := hb1.size; (try simp only [World.size_alloc, World.size_setCell] at z1); have z2 := hb2.size; (try simp only [World.size_alloc, World.size_setCell] at z2); have z3 := hb3.size; (try simp only [World.size_alloc, World.size_setCell] at z3); have z4 := hb4.size; (try simp only [World.size_alloc, World.size_setCell] at z4); skip
  (repeat (first | exact Below.refl _ _ | refine Below.setCell ?_ (by first | omega | (simp; done) | (simp; omega) | (simp only [World.size_alloc, World.size_setCell] at *; omega)) _ | refine Below.alloc ?_ (by first | omega | (simp; done) | (simp; omega) | (simp only [World.size_alloc, World.size_setCell] at *; omega)) _ | refine Below.trans ?_ (Below.mono (by assumption) (by first | omega | (simp; done) | (simp; omega) | (simp only [World.size_alloc, World.size_setCell] at *; omega)))))

set_option maxHeartbeats 1000000 in
theorem rtrue_no (sa sb sc sd se sf n t : Int) (w : World) (hn : trn sa sb sc sd se sf n t ≠ 0) :
    Calls Try.prog 60 #[.agg #[.int .i64 sa, .int .i64 sb, .int .i64 sc, .int .i64 sd, .int .i64 se, .int .i64 sf], .int .i64 n, .int .i64 t] w fun e w' => e = .returned (.tuple #[.agg #[.int .i64 0, .int .i64 0], .int .i64 (trn sa sb sc sd se sf n t)]) ∧ Below w.heap.size w w' := by
  have HN := Lib.hid hn
  clear hn
  have B0 := (Blk.new w 23 #[.int .i64 sa, .int .i64 sb, .int .i64 sc, .int .i64 sd, .int .i64 se, .int .i64 sf]).alloc (.cells #[.int .i64 0, .int .i64 0] 32)
  have B1 := Blk.new (w.alloc (.cells #[.int .i64 sa, .int .i64 sb, .int .i64 sc, .int .i64 sd, .int .i64 se, .int .i64 sf] 23)) 32 #[.int .i64 0, .int .i64 0]
  have c0 := B0.cell
  have c1 := B1.cell
  simp only [World.size_alloc] at B1 c1
  by_cases hk : chk sa sb sc sd se sf = 0
  case neg =>
    have hk' := (chk_01 sa sb sc sd se sf).resolve_left hk
    have he : trn sa sb sc sd se sf n t = 1 := by simp [trn, hk]
    rw [he]
    clear he hk
    go_enter Try.func60, Try.ntmps60
    go_wp2_with (go_at_call 6; refine (rcheck_any _ _ _ _ _ _ _).mono ?_; rintro e w1 ⟨rfl, hb1⟩; replace B0 := B0.step hb1; clear c0; have c0 := B0.cell; replace B1 := B1.step hb1; clear c1; have c1 := B1.cell; have f1 := B1.free)
    refine bodyPost_ret (v := .tuple #[.agg #[.int .i64 0, .int .i64 0], .int .i64 1]) (by simp only [results, Try.results60]; go_simp) rfl ⟨by first | rfl | simp [trlo, trhi, *], ?_⟩
    have z1 := hb1.size; (try simp only [World.size_alloc, World.size_setCell] at z1); skip
    (repeat (first | exact Below.refl _ _ | refine Below.setCell ?_ (by first | omega | (simp; done) | (simp; omega) | (simp only [World.size_alloc, World.size_setCell] at *; omega)) _ | refine Below.alloc ?_ (by first | omega | (simp; done) | (simp; omega) | (simp only [World.size_alloc, World.size_setCell] at *; omega)) _ | refine Below.trans ?_ (Below.mono (by assumption) (by first | omega | (simp; done) | (simp; omega) | (simp only [World.size_alloc, World.size_setCell] at *; omega)))))
  have h1 : 1 ≤ sa := (chk_ok.1 hk).a1
  by_cases hs : shw sa sb n = true
  case neg =>
    have hs := eq_false_of_ne_true hs
    have he : trn sa sb sc sd se sf n t = 1 := by simp [trn, hs]
    rw [he]
    clear he
    go_enter Try.func60, Try.ntmps60
    go_wp2_with (first
      | (go_at_call 6; refine (rcheck_any _ _ _ _ _ _ _).mono ?_; rintro e w1 ⟨rfl, hb1⟩; replace B0 := B0.step hb1; clear c0; have c0 := B0.cell; replace B1 := B1.step hb1; clear c1; have c1 := B1.cell)
      | (go_at_call 24; refine (showable_any _ _ _ _ _ _ _ _ h1).mono ?_; rintro e w2 ⟨rfl, hb2⟩; replace B0 := B0.step hb2; clear c0; have c0 := B0.cell; replace B1 := B1.step hb2; clear c1; have c1 := B1.cell; have f1 := B1.free))
    refine bodyPost_ret (v := .tuple #[.agg #[.int .i64 0, .int .i64 0], .int .i64 1]) (by simp only [results, Try.results60]; go_simp) rfl ⟨by first | rfl | simp [trlo, trhi, *], ?_⟩
    have z1 := hb1.size; (try simp only [World.size_alloc, World.size_setCell] at z1); have z2 := hb2.size; (try simp only [World.size_alloc, World.size_setCell] at z2); skip
    (repeat (first | exact Below.refl _ _ | refine Below.setCell ?_ (by first | omega | (simp; done) | (simp; omega) | (simp only [World.size_alloc, World.size_setCell] at *; omega)) _ | refine Below.alloc ?_ (by first | omega | (simp; done) | (simp; omega) | (simp only [World.size_alloc, World.size_setCell] at *; omega)) _ | refine Below.trans ?_ (Below.mono (by assumption) (by first | omega | (simp; done) | (simp; omega) | (simp only [World.size_alloc, World.size_setCell] at *; omega)))))
  have he : mom sa sb sc sd se sf t = trn sa sb sc sd se sf n t := by simp [mom, trn, hk, hs]
  have hm0 : mom sa sb sc sd se sf t ≠ 0 := by rw [he]; exact HN.out
  rw [← he]
  clear he
  go_enter Try.func60, Try.ntmps60
  go_wp2_with (first
    | (go_at_call 6; refine (rcheck_any _ _ _ _ _ _ _).mono ?_; rintro e w1 ⟨rfl, hb1⟩; replace B0 := B0.step hb1; clear c0; have c0 := B0.cell; replace B1 := B1.step hb1; clear c1; have c1 := B1.cell)
    | (go_at_call 24; refine (showable_any _ _ _ _ _ _ _ _ h1).mono ?_; rintro e w2 ⟨rfl, hb2⟩; replace B0 := B0.step hb2; clear c0; have c0 := B0.cell; replace B1 := B1.step hb2; clear c1; have c1 := B1.cell)
    | (go_at_call 56; refine (moment_any _ _ _ _ _ _ _ _).mono ?_; rintro e w3 ⟨rfl, hb3⟩; replace B0 := B0.step hb3; clear c0; have c0 := B0.cell; replace B1 := B1.step hb3; clear c1; have c1 := B1.cell; have f1 := B1.free))
  refine bodyPost_ret (v := .tuple #[.agg #[.int .i64 0, .int .i64 0], .int .i64 (mom sa sb sc sd se sf t)]) (by simp only [results, Try.results60]; go_simp) rfl ⟨rfl, ?_⟩
  have z1 := hb1.size; (try simp only [World.size_alloc, World.size_setCell] at z1); have z2 := hb2.size; (try simp only [World.size_alloc, World.size_setCell] at z2); have z3 := hb3.size; (try simp only [World.size_alloc, World.size_setCell] at z3); skip
  (repeat (first | exact Below.refl _ _ | refine Below.setCell ?_ (by first | omega | (simp; done) | (simp; omega) | (simp only [World.size_alloc, World.size_setCell] at *; omega)) _ | refine Below.alloc ?_ (by first | omega | (simp; done) | (simp; omega) | (simp only [World.size_alloc, World.size_setCell] at *; omega)) _ | refine Below.trans ?_ (Below.mono (by assumption) (by first | omega | (simp; done) | (simp; omega) | (simp only [World.size_alloc, World.size_setCell] at *; omega)))))

theorem rtrue_any (sa sb sc sd se sf n t : Int) (w : World) :
    Calls Try.prog 60 #[.agg #[.int .i64 sa, .int .i64 sb, .int .i64 sc, .int .i64 sd, .int .i64 se, .int .i64 sf], .int .i64 n, .int .i64 t] w fun e w' => e = .returned (.tuple #[.agg #[.int .i64 (trlo sa sb sc sd se sf n t), .int .i64 (trhi sa sb sc sd se sf n t)], .int .i64 (trn sa sb sc sd se sf n t)]) ∧ Below w.heap.size w w' := by
  by_cases hn : trn sa sb sc sd se sf n t = 0
  · obtain ⟨hV, hs, ht0, ht, hft⟩ := trn_ok.1 hn
    simp only [trlo, trhi, hn, if_true]
    exact rtrue_ok _ _ _ _ _ _ _ _ _ hV hs ht0 ht hft
  · simp only [trlo, trhi, hn, if_false]
    exact rtrue_no _ _ _ _ _ _ _ _ _ hn

end Go.Proofs.Ytapfihlfnaebhaa
