/- Contract: Total over the whole time, of tickets numbered from one on. -/
import Derived.Test.YtapfihlfnaebhaaMeaD
import Derived.Test.YtapfihlfnaebhaaSpanD
import Derived.Test.YtapfihlfnaebhaaAppend
namespace Go.Proofs.Ytapfihlfnaebhaa
set_option linter.unusedVariables false
set_option linter.unusedSimpArgs false
open Go.RowKit

theorem encP_all (s : Sp) : ∀ u ∈ encP s, u.oneCell' = true := by
  intro u hu
  simp only [encP, List.mem_cons, List.not_mem_nil, or_false] at hu
  rcases hu with rfl | rfl <;> rfl
theorem own_geT {W : World} {base n C : Nat} {e : TypeId} {v : Value} {xs : List Value} (h : W.ownsRow base e C v n xs) : ∀ k, v.ownBlock = some k → base ≤ k := by
  intro k hk
  rcases ownsRow_open h with ⟨rfl, _⟩ | ⟨gg, cc, uu, rfl, hgg, _⟩
  · cases hk
  · have hj := Option.some.inj hk; dsimp only at hj; omega
theorem nets_succ {S : List Sc} {T : List Tk} {k : Nat} {x : Tk} (hx : T[k]? = some x) : rowOf encP (netsT S (T.take (k + 1))) = rowOf encP (netsT S (T.take k)) ++ encP (netT S x) := by
  rw [List.take_add_one, hx]
  simp [netsT, rowOf]
def ToRel (w6 : World) (S : List Sc) (T : List Tk) (v i : Value) (wr : World) : Prop :=
  ∃ k : Nat, k ≤ T.length ∧ i = .int .i64 k ∧ Below w6.heap.size w6 wr ∧ wr.ownsRow w6.heap.size 32 2 v k (rowOf encP (netsT S (T.take k)))
set_option maxRecDepth 100000 in
set_option maxHeartbeats 4000000 in
theorem total_any {w : World} {vs v : Value} {S : List Sc} {T : List Tk} (hs : RowIn w vs 6 encS S) (hm : S.length ≤ 16) (hok : ∀ s ∈ S, chkS s = 0) (hl : RowIn w v 6 encT T) (hn : T.length ≤ 512) (hT : Num T)
    (hx : ∀ x ∈ T, TkOk S x ∧ x.tare ≤ x.gross) : Calls Try.prog 20 #[vs, v, .agg #[.int .i64 0, .int .i64 3155760000]] w fun e w' => e = .returned (.tuple #[.agg #[.int .i64 (sumS (netsT S T)).lo, .int .i64 (sumS (netsT S T)).hi], .int .i64 (sumE (netsT S T))]) ∧ Below w.heap.size w w' := by
  have h1 := fun (w1 : World) (h : Below w.heap.size w w1) => tcheck_any (hs.step h) hm hok (hl.step h) hn hT hx
  have h2 := fun (w1 : World) (h : Below w.heap.size w w1) => active_any (hl.step h) hn hT
  have h3 := fun (x : Tk) (hx2 : TkOk S x ∧ x.tare ≤ x.gross) (w1 : World) (h : Below w.heap.size w w1) => tnet_any (hs.step h) hm hok hx2.1 hx2.2
  obtain ⟨sa, cs, rfl, s1, s2, _, hs5⟩ := hl.at_
  unfold maxLen at s2
  have HP := Lib.hid hs5
  have H1 := Lib.hid h1
  have H2 := Lib.hid h2
  have H3 := Lib.hid h3
  have HX := Lib.hid hx
  clear hs5 hl hs hok h1 h2 h3 hT hx
  obtain ⟨tj, ji, jz, jsi, jby⟩ := info_of (P := Try.prog) (t := 32) (z := .agg #[.int .i64 0, .int .i64 0]) (size := 2) (bytes := 16) (by kernel_rfl)
  have HSL := Lib.hid (fun (w : World) (v : Value) (h : RowIn w v 2 encP (netsT S T)) => sumL_any h)
  generalize hSS : sumS (netsT S T) = SS at *
  generalize hSE : sumE (netsT S T) = SE at *
  clear hSS hSE
  go_enter Try.func20, Try.ntmps20
  go_wp2_with fail
  have hb1 : Below w.heap.size w ((w.alloc (.cells #[.int .i64 0, .int .i64 3155760000] 68)).alloc (.cells #[.int .i64 0, .int .i64 0] 32)) := by repeat (first | (with_reducible exact Below.refl _ _) | (with_reducible assumption) | (with_reducible refine Below.drew ?_) | ((with_reducible refine Below.alloc ?_ ?_ _); rotate_left; (first | (with_reducible exact Nat.zero_le _) | (with_reducible exact Nat.le_refl _) | omega | (dsimp only; omega) | (simp only [World.size_alloc, World.size_setCell, World.size_drew]; omega))) | ((with_reducible refine Below.setCell ?_ ?_ _); rotate_left; (first | (with_reducible exact Nat.zero_le _) | (with_reducible exact Nat.le_refl _) | omega | (dsimp only; omega) | (simp only [World.size_alloc, World.size_setCell, World.size_drew]; omega))))
  have BX := (Blk.new w 68 #[.int .i64 0, .int .i64 3155760000]).alloc (.cells #[.int .i64 0, .int .i64 0] 32)
  have B4 := Blk.new (w.alloc (.cells #[.int .i64 0, .int .i64 3155760000] 68)) 32 #[.int .i64 0, .int .i64 0]
  simp only [World.size_alloc] at B4
  obtain ⟨b4, hb4⟩ : ∃ b, w.heap.size + 1 = b := ⟨_, rfl⟩
  rw [hb4] at B4 ⊢
  have N4 : w.heap.size ≤ b4 := by omega
  clear hb4
  generalize (w.alloc (.cells #[.int .i64 0, .int .i64 3155760000] 68)).alloc (.cells #[.int .i64 0, .int .i64 0] 32) = W at *
  refine (H1.out _ hb1).mono ?_
  rintro e w5 ⟨rfl, hb5⟩
  replace BX := BX.step hb5
  replace B4 := B4.step hb5
  replace hb1 := hb1.trans (hb5.mono hb1.size)
  have x0 := BX.cell
  have c0 : World.cell? w5 ⟨w.heap.size, 0, none⟩ = some (.int .i64 0) := x0 0
  have c1 : World.cell? w5 ⟨w.heap.size, 1, none⟩ = some (.int .i64 3155760000) := x0 1
  clear x0
  go_wp2_with fail
  refine (H2.out _ hb1).mono ?_
  rintro e w6 ⟨r, rfl, hr, hb6⟩
  replace BX := BX.step hb6
  replace B4 := B4.step hb6
  replace hb1 := hb1.trans (hb6.mono hb1.size)
  have z1 := hb1.size
  obtain ⟨ra, rc, rfl, r1, r2, _, hr5⟩ := hr.at_
  rw [upto_len] at r1 ⊢
  unfold maxLen at r2
  have HR := Lib.hid hr5
  clear c0 c1 hr hr5 hb5 hb6
  go_wp2_with fail
  go_loopw [11, 50] (fun v i wr => ToRel w6 S T v i wr) (fun _ i _ => (T.length - intOf i).toNat)
  case atStart => exact ⟨0, Nat.zero_le _, rfl, Below.refl _ _, ⟨by simp [rowOf, netsT], .inl ⟨rfl, rfl⟩⟩⟩
  case round =>
    obtain ⟨k, hk, rfl, hbr, own⟩ := hrel
    have hwr := hbr.size
    have hbw := hb1.trans (hbr.mono z1)
    by_cases hkl : k < T.length
    · have hki : (k : Int) < T.length := by omega
      have hk0 : (0 : Int) ≤ k := by omega
      have hx := getD_of (d := tk0) hkl
      obtain ⟨ob, oo, rfl, hoz, hoc⟩ := HP.out (by rintro rfl; simp at hkl)
      obtain ⟨rb, ro, rfl, hrz, hrc⟩ := HR.out (by intro h; have := upto_len T.length; rw [h] at this; simp at this; omega)
      have eu : wr.cell? ⟨rb, ro + k, none⟩ = some (.int .i64 (k : Int)) := by
        have hu : (upto T.length)[k]? = some (k : Int) := by unfold upto; rw [List.getElem?_map, List.getElem?_range hkl]; rfl
        have := hrc k _ hu 0 (by omega)
        rw [Nat.mul_one, Nat.add_zero] at this
        exact (hbr.cell (p := ⟨rb, _, none⟩) hrz).trans this
      have ec := hoc k _ hx
      have q : ∀ j, wr.cell? ⟨ob, j, none⟩ = w.cell? ⟨ob, j, none⟩ := fun j => hbw.cell (p := ⟨ob, j, none⟩) hoz
      have hxx := HX.out _ (List.mem_of_getElem? hx)
      obtain ⟨t0, t1⟩ := hxx.1.time
      have hwe := H3.out _ hxx
      have hsu := nets_succ (S := S) hx
      clear hx hoc hrc hxx
      generalize T.getD k tk0 = x at *
      generalize netT S x = g at *
      obtain ⟨id, sc, tm, gross, tare, rep⟩ := x
      dsimp only at hwe t0 t1
      have e0 : World.cell? wr ⟨ob, oo + k * 6, none⟩ = some (.int .i64 id) := (q _).trans (ec 0 (by omega))
      have e1 : World.cell? wr ⟨ob, oo + k * 6 + 1, none⟩ = some (.int .i64 sc) := (q _).trans (ec 1 (by omega))
      have e2 : World.cell? wr ⟨ob, oo + k * 6 + 2, none⟩ = some (.int .i64 tm) := (q _).trans (ec 2 (by omega))
      have e3 : World.cell? wr ⟨ob, oo + k * 6 + 3, none⟩ = some (.int .i64 gross) := (q _).trans (ec 3 (by omega))
      have e4 : World.cell? wr ⟨ob, oo + k * 6 + 4, none⟩ = some (.int .i64 tare) := (q _).trans (ec 4 (by omega))
      have e5 : World.cell? wr ⟨ob, oo + k * 6 + 5, none⟩ = some (.int .i64 rep) := (q _).trans (ec 5 (by omega))
      have x0 := (BX.step hbr).cell
      have c0 : World.cell? wr ⟨w.heap.size, 0, none⟩ = some (.int .i64 0) := x0 0
      have c1 : World.cell? wr ⟨w.heap.size, 1, none⟩ = some (.int .i64 3155760000) := x0 1
      have HSU := Lib.hid hsu
      have OWN := Lib.hid own
      have g1 : ¬ tm < 0 := by omega
      have g2 : ¬ tm ≥ 3155760000 := by omega
      clear ec q x0 hsu own
      go_wp2_with fail
      have HWE := Lib.hid hwe
      clear hwe
      go_quiet (fail)
      have hq : Below wr.heap.size wr (wr.drewN nq) := ⟨rfl, rfl, rfl, Nat.le_refl _, fun _ _ => rfl⟩
      have lob : ob < wr.heap.size := Nat.lt_of_lt_of_le hoz hbw.size
      have f0 := (hq.cell (p := ⟨ob, oo + k * 6, none⟩) lob).trans e0
      have f1 := (hq.cell (p := ⟨ob, oo + k * 6 + 1, none⟩) lob).trans e1
      have f2 := (hq.cell (p := ⟨ob, oo + k * 6 + 2, none⟩) lob).trans e2
      have f3 := (hq.cell (p := ⟨ob, oo + k * 6 + 3, none⟩) lob).trans e3
      have f4 := (hq.cell (p := ⟨ob, oo + k * 6 + 4, none⟩) lob).trans e4
      have f5 := (hq.cell (p := ⟨ob, oo + k * 6 + 5, none⟩) lob).trans e5
      have hwq := HWE.out _ (hbw.trans (hq.mono hbw.size))
      have own1 := ownsRow_step OWN.out hq
      have hbq := hbr.trans (hq.mono hwr)
      clear e0 e1 e2 e3 e4 e5 c0 c1 eu hq
      generalize wr.drewN nq = wq at *
      have hwr2 := hbq.size
      go_wp2_with fail
      refine hwq.mono ?_
      rintro e w7 ⟨rfl, hb7⟩
      have hbs : Below w7.heap.size w7 ((w7.alloc (.cells #[.int .i64 g.lo, .int .i64 g.hi] 32)).alloc (.cells #[.int .i64 g.lo, .int .i64 g.hi] 32)) := by repeat (first | (with_reducible exact Below.refl _ _) | (with_reducible assumption) | (with_reducible refine Below.drew ?_) | ((with_reducible refine Below.alloc ?_ ?_ _); rotate_left; (first | (with_reducible exact Nat.zero_le _) | (with_reducible exact Nat.le_refl _) | omega | (dsimp only; omega) | (simp only [World.size_alloc, World.size_setCell, World.size_drew]; omega))) | ((with_reducible refine Below.setCell ?_ ?_ _); rotate_left; (first | (with_reducible exact Nat.zero_le _) | (with_reducible exact Nat.le_refl _) | omega | (dsimp only; omega) | (simp only [World.size_alloc, World.size_setCell, World.size_drew]; omega))))
      have BK := Blk.new (w7.alloc (.cells #[.int .i64 g.lo, .int .i64 g.hi] 32)) 32 #[.int .i64 g.lo, .int .i64 g.hi]
      simp only [World.size_alloc] at BK
      have hb8 := hb7.trans (hbs.mono hb7.size)
      have own2 := ownsRow_step own1 hb8
      have hbz := hbq.trans (hb8.mono hwr2)
      have HBZ := Lib.hid hbz
      clear hb7 hbs hb8 hbr hbw hbq own1 hwq
      go_wp2_with (at_builtin; go_loud (refine wpList_append_any _ rfl _ _ _ rfl w6.heap.size 32 tj _ 2 16 Try.underlying29 ji jz jsi jby rfl (by omega) _ k _ rfl own2 _ 1 (encP g) rfl (Src.of_blk BK 1) rfl (encP_all g) (by simp only [maxLen]; omega) (by omega) hbz.size ?_); intro v8 w8 own8 hg8 hat8)
      have hb9 := Below.grown HBZ.out hg8 HBZ.out.size (own_geT own2)
      rw [← HSU.out] at own8
      clear own2 hg8 hat8
      go_roundw
      case rel => exact ⟨k + 1, hkl, by simp, hb9, own8⟩
      case measure => simp [intOf]; omega
    · obtain rfl : k = T.length := by omega
      rw [List.take_length] at own
      have hlen : (netsT S T).length = T.length := by simp [netsT]
      have own' : wr.ownsRow w6.heap.size 32 2 u11 (netsT S T).length ((netsT S T).flatMap encP) := by rw [hlen]; exact own
      have hsl := HSL.out _ _ (RowIn.of_own (fun _ => rfl) own')
      have B5 := B4.step hbr
      clear hkl hk own own'
      go_wp2_with fail
      refine hsl.mono ?_
      rintro e w7 ⟨rfl, hb7⟩
      replace B5 := B5.step hb7
      have v5 := B5.cell
      have u5 := B5.free
      have l5 := B5.lt
      have hbz := hbw.trans (hb7.mono hbw.size)
      go_wp2_with fail
      refine bodyPost_ret (v := .tuple #[.agg #[.int .i64 (SS).lo, .int .i64 (SS).hi], .int .i64 SE]) (by simp only [results, Try.results20]; go_simp; first | done | rfl) rfl ?_
      exact ⟨rfl, by repeat (first | (with_reducible exact Below.refl _ _) | (with_reducible assumption) | (with_reducible refine Below.drew ?_) | ((with_reducible refine Below.alloc ?_ ?_ _); rotate_left; (first | (with_reducible exact Nat.zero_le _) | (with_reducible exact Nat.le_refl _) | omega | (dsimp only; omega) | (simp only [World.size_alloc, World.size_setCell, World.size_drew]; omega))) | ((with_reducible refine Below.setCell ?_ ?_ _); rotate_left; (first | (with_reducible exact Nat.zero_le _) | (with_reducible exact Nat.le_refl _) | omega | (dsimp only; omega) | (simp only [World.size_alloc, World.size_setCell, World.size_drew]; omega))))⟩

end Go.Proofs.Ytapfihlfnaebhaa
