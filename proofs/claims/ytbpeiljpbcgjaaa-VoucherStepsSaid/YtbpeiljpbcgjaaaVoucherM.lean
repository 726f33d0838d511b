/- Contract: the law's model, a step of the reference's book. -/
import Derived.Test.YtbpeiljpbcgjaaaVoucherK
import Derived.Test.YtbpeiljpbcgjaaaVoucherL
import Derived.Deep.RegionHeld3
namespace Go.Proofs.Ytbpeiljpbcgjaaa
set_option linter.unusedVariables false
set_option linter.unusedSimpArgs false
open Go.RowKit


theorem rissue_any {w : World} {v vs rs : Value} {B : Bk} (hB : RHolds w v B vs rs) (hok : BkOk B) (m a t : Int) : Calls Try.prog 23 #[v, .int .i64 m, .int .i64 a, .int .i64 t] w (rissOut w B vs rs m a t) := by
  by_cases h : issE B m a t = 0
  · exact rissue_ok hB hok m a t h
  · exact rissue_no hB hok m a t h
theorem rredeem_any {w : World} {v vs rs : Value} {B : Bk} (hB : RHolds w v B vs rs) (hok : BkOk B) (n t : Int) : Calls Try.prog 24 #[v, .int .i64 n, .int .i64 t] w (rredOut w B vs rs n t) := by
  by_cases h : redE B n t = 0
  · exact rredeem_ok hB hok n t h
  · exact rredeem_no hB hok n t h

theorem own_lt {w : World} {base : Nat} {e : TypeId} {size : Nat} {v : Value} {n : Nat} {xs : List Value} (h : w.ownsRow base e size v n xs) : ∀ j, v.ownBlock = some j → j < w.heap.size := by
  intro j hj
  rcases ownsRow_open h with ⟨rfl, _, _⟩ | ⟨g, cap, cur, rfl, _, hb, _⟩
  · simp [Value.ownBlock] at hj
  · obtain rfl : g = j := by simpa [Value.ownBlock] using hj
    exact hb.lt
theorem fresh_far {w W : World} {v0 v : Value} (h0 : ∀ j, v0.ownBlock = some j → j < w.heap.size) (h : Fresh W v0 v) : ∀ j, v.ownBlock = some j → j < w.heap.size ∨ W.heap.size ≤ j := by
  intro j hj
  rcases h with rfl | h
  · exact .inl (h0 j hj)
  · exact .inr (h j hj)

theorem fresh_low {w W : World} {v0 v : Value} (h : w.heap.size ≤ W.heap.size) (k : Fresh W v0 v) : Fresh w v0 v := by
  rcases k with rfl | k
  · exact .inl rfl
  · exact .inr fun j hj => Nat.le_trans h (k j hj)

def mdOut (w : World) (B : Bk) (vs0 rs0 : Value) (s : Stp) (e : Ending) (w' : World) : Prop :=
  ∃ v vs rs, e = .returned (.tuple #[v, .agg (encV (stV B s)).toArray, .int .i64 (stN B s), .int .i64 (stE B s)]) ∧ RHolds w' v (stB B s) vs rs ∧ Below w.heap.size w w' ∧ Fresh w vs0 vs ∧ Fresh w rs0 rs


set_option maxHeartbeats 1000000 in
theorem model_0 {w : World} {v vs rs : Value} {B : Bk} (hB : RHolds w v B vs rs) (hok : BkOk B) (k a b' t : Int) (hk : k = 0) :
    Calls Try.prog 16 #[v, .agg (encS ⟨k, a, b', t⟩).toArray] w (mdOut w B vs rs ⟨k, a, b', t⟩) := by
  have hv0 := own_lt hB.vown
  have hr0 := own_lt hB.rown
  have heq := hB.eq
  subst heq
  have K0 : Blk ((((w.alloc (.cells #[.int .i64 B.valid, .int .i64 B.now, vs, rs] 29)).alloc (.cells #[.int .i64 k, .int .i64 a, .int .i64 b', .int .i64 t] 42)).alloc (.cells #[.int .i64 0, .int .i64 0, .slice none 0 0, .slice none 0 0] 29)).alloc (.cells #[.int .i64 0, .int .i64 0, .int .i64 0, .int .i64 0, .int .i64 0] 38)) w.heap.size 29 #[.int .i64 B.valid, .int .i64 B.now, vs, rs] := (Blk.new w 29 #[.int .i64 B.valid, .int .i64 B.now, vs, rs]).step (by ((repeat (first | exact Below.refl _ _ | refine Below.drew ?_ | refine Below.alloc ?_ (by first | exact Nat.le_refl _ | omega | (simp only [World.size_alloc, World.size_drew, World.size_setCell]; omega)) _)); first | (fail_if_success (focus skip)) | fail))
  have K1 : Blk ((((w.alloc (.cells #[.int .i64 B.valid, .int .i64 B.now, vs, rs] 29)).alloc (.cells #[.int .i64 k, .int .i64 a, .int .i64 b', .int .i64 t] 42)).alloc (.cells #[.int .i64 0, .int .i64 0, .slice none 0 0, .slice none 0 0] 29)).alloc (.cells #[.int .i64 0, .int .i64 0, .int .i64 0, .int .i64 0, .int .i64 0] 38)) (w.heap.size + 1) 42 #[.int .i64 k, .int .i64 a, .int .i64 b', .int .i64 t] := by
    have := (Blk.new (w.alloc (.cells #[.int .i64 B.valid, .int .i64 B.now, vs, rs] 29)) 42 #[.int .i64 k, .int .i64 a, .int .i64 b', .int .i64 t]).step (w' := ((((w.alloc (.cells #[.int .i64 B.valid, .int .i64 B.now, vs, rs] 29)).alloc (.cells #[.int .i64 k, .int .i64 a, .int .i64 b', .int .i64 t] 42)).alloc (.cells #[.int .i64 0, .int .i64 0, .slice none 0 0, .slice none 0 0] 29)).alloc (.cells #[.int .i64 0, .int .i64 0, .int .i64 0, .int .i64 0, .int .i64 0] 38))) (by ((repeat (first | exact Below.refl _ _ | refine Below.drew ?_ | refine Below.alloc ?_ (by first | exact Nat.le_refl _ | omega | (simp only [World.size_alloc, World.size_drew, World.size_setCell]; omega)) _)); first | (fail_if_success (focus skip)) | fail))
    simpa using this
  have K2 : Blk ((((w.alloc (.cells #[.int .i64 B.valid, .int .i64 B.now, vs, rs] 29)).alloc (.cells #[.int .i64 k, .int .i64 a, .int .i64 b', .int .i64 t] 42)).alloc (.cells #[.int .i64 0, .int .i64 0, .slice none 0 0, .slice none 0 0] 29)).alloc (.cells #[.int .i64 0, .int .i64 0, .int .i64 0, .int .i64 0, .int .i64 0] 38)) (w.heap.size + 2) 29 #[.int .i64 0, .int .i64 0, .slice none 0 0, .slice none 0 0] := by
    have := (Blk.new ((w.alloc (.cells #[.int .i64 B.valid, .int .i64 B.now, vs, rs] 29)).alloc (.cells #[.int .i64 k, .int .i64 a, .int .i64 b', .int .i64 t] 42)) 29 #[.int .i64 0, .int .i64 0, .slice none 0 0, .slice none 0 0]).step (w' := ((((w.alloc (.cells #[.int .i64 B.valid, .int .i64 B.now, vs, rs] 29)).alloc (.cells #[.int .i64 k, .int .i64 a, .int .i64 b', .int .i64 t] 42)).alloc (.cells #[.int .i64 0, .int .i64 0, .slice none 0 0, .slice none 0 0] 29)).alloc (.cells #[.int .i64 0, .int .i64 0, .int .i64 0, .int .i64 0, .int .i64 0] 38))) (by ((repeat (first | exact Below.refl _ _ | refine Below.drew ?_ | refine Below.alloc ?_ (by first | exact Nat.le_refl _ | omega | (simp only [World.size_alloc, World.size_drew, World.size_setCell]; omega)) _)); first | (fail_if_success (focus skip)) | fail))
    simpa using this
  have K3 : Blk ((((w.alloc (.cells #[.int .i64 B.valid, .int .i64 B.now, vs, rs] 29)).alloc (.cells #[.int .i64 k, .int .i64 a, .int .i64 b', .int .i64 t] 42)).alloc (.cells #[.int .i64 0, .int .i64 0, .slice none 0 0, .slice none 0 0] 29)).alloc (.cells #[.int .i64 0, .int .i64 0, .int .i64 0, .int .i64 0, .int .i64 0] 38)) (w.heap.size + 3) 38 #[.int .i64 0, .int .i64 0, .int .i64 0, .int .i64 0, .int .i64 0] := by
    have := Blk.new (((w.alloc (.cells #[.int .i64 B.valid, .int .i64 B.now, vs, rs] 29)).alloc (.cells #[.int .i64 k, .int .i64 a, .int .i64 b', .int .i64 t] 42)).alloc (.cells #[.int .i64 0, .int .i64 0, .slice none 0 0, .slice none 0 0] 29)) 38 #[.int .i64 0, .int .i64 0, .int .i64 0, .int .i64 0, .int .i64 0]
    simpa using this
  have ZU : Below w.heap.size w ((((w.alloc (.cells #[.int .i64 B.valid, .int .i64 B.now, vs, rs] 29)).alloc (.cells #[.int .i64 k, .int .i64 a, .int .i64 b', .int .i64 t] 42)).alloc (.cells #[.int .i64 0, .int .i64 0, .slice none 0 0, .slice none 0 0] 29)).alloc (.cells #[.int .i64 0, .int .i64 0, .int .i64 0, .int .i64 0, .int .i64 0] 38)) := by ((repeat (first | exact Below.refl _ _ | refine Below.drew ?_ | refine Below.alloc ?_ (by first | exact Nat.le_refl _ | omega | (simp only [World.size_alloc, World.size_drew, World.size_setCell]; omega)) _)); first | (fail_if_success (focus skip)) | fail)
  have hUs : ((((w.alloc (.cells #[.int .i64 B.valid, .int .i64 B.now, vs, rs] 29)).alloc (.cells #[.int .i64 k, .int .i64 a, .int .i64 b', .int .i64 t] 42)).alloc (.cells #[.int .i64 0, .int .i64 0, .slice none 0 0, .slice none 0 0] 29)).alloc (.cells #[.int .i64 0, .int .i64 0, .int .i64 0, .int .i64 0, .int .i64 0] 38)).heap.size = w.heap.size + 4 := by simp
  have hB2 := hB.step ZU
  have fin : ∀ (e : Ending) (w' : World) (x : Ent) (n er : Int) (B' : Bk), stV B ⟨k, a, b', t⟩ = x → stN B ⟨k, a, b', t⟩ = n → stE B ⟨k, a, b', t⟩ = er → stB B ⟨k, a, b', t⟩ = B' → 
      (∃ v vs' rs', e = .returned (.tuple #[v, .agg (encV (x)).toArray, .int .i64 n, .int .i64 er]) ∧ RHolds w' v B' vs' rs' ∧ Below w.heap.size w w' ∧ Fresh w vs vs' ∧ Fresh w rs rs') → mdOut w B vs rs ⟨k, a, b', t⟩ e w' := by
    intro e w' v n er B' h1 h2 h3 h4 h
    unfold mdOut
    rw [h1, h2, h3, h4]
    exact h
  unfold encS
  obtain ⟨oa, cap, hvs⟩ := ownsRow_shape hB.vown
  obtain ⟨ob, cap', hrs⟩ := ownsRow_shape hB.rown
  subst hk
  replace fin := Lib.hid (fin · · (issV B a b' t) 0 (issE B a b' t) (issB B a b' t) rfl rfl rfl rfl)
  subst hvs hrs
  go_enter Try.func16, Try.ntmps16
  go_wp2_with fail
  refine (rissue_any hB2 hok a b' t).mono ?_
  rintro e w1 ⟨v1, vs1, rs1, rfl, ⟨rfl, hv1, hr1⟩, hb1, hf1, hf2⟩
  have hfv := fresh_far hv0 hf1
  have hg1 := fresh_low ZU.size hf1
  have hg2 := fresh_low ZU.size hf2
  have hfr := fresh_far hr0 hf2
  rw [hUs] at hfv hfr
  obtain ⟨oa1, cap1, rfl⟩ := ownsRow_shape hv1
  obtain ⟨ob1, cap1', rfl⟩ := ownsRow_shape hr1
  have C0 := K0.step hb1
  have C2 := K2.step hb1
  have C3 := K3.step hb1
  have hz1 := hb1.size
  rw [hUs] at hz1
  have hb2 : Below w.heap.size w w1 := ZU.trans (hb1.mono (by omega))
  clear K0 K1 K2 K3 ZU hUs hb1 hB2 hf1 hf2 hv0 hr0
  generalize issV B a b' t = x at *
  generalize issB B a b' t = B' at *
  generalize issE B a b' t = er at *
  unfold encV
  go_wp2_with fail
  simp only [show w.heap.size + 1 + 1 + 1 = w.heap.size + 3 from rfl, show w.heap.size + 1 + 1 = w.heap.size + 2 from rfl]
  have E1 : Blk ((w1.alloc (.cells #[.int .i64 B'.valid, .int .i64 B'.now, .slice oa1 B'.es.length cap1, .slice ob1 B'.es.length cap1'] 29)).alloc (.cells #[.int .i64 x.num, .int .i64 x.mach, .int .i64 x.amt, .int .i64 x.at_, .int .i64 x.til] 38)) (w1.heap.size + 1) 38 #[.int .i64 x.num, .int .i64 x.mach, .int .i64 x.amt, .int .i64 x.at_, .int .i64 x.til] := by
    have := Blk.new (w1.alloc (.cells #[.int .i64 B'.valid, .int .i64 B'.now, .slice oa1 B'.es.length cap1, .slice ob1 B'.es.length cap1'] 29)) 38 #[.int .i64 x.num, .int .i64 x.mach, .int .i64 x.amt, .int .i64 x.at_, .int .i64 x.til]
    simpa using this
  have E0 : Blk ((w1.alloc (.cells #[.int .i64 B'.valid, .int .i64 B'.now, .slice oa1 B'.es.length cap1, .slice ob1 B'.es.length cap1'] 29)).alloc (.cells #[.int .i64 x.num, .int .i64 x.mach, .int .i64 x.amt, .int .i64 x.at_, .int .i64 x.til] 38)) w1.heap.size 29 #[.int .i64 B'.valid, .int .i64 B'.now, .slice oa1 B'.es.length cap1, .slice ob1 B'.es.length cap1'] := (Blk.new w1 29 #[.int .i64 B'.valid, .int .i64 B'.now, .slice oa1 B'.es.length cap1, .slice ob1 B'.es.length cap1']).alloc _
  replace C2 := (C2.alloc (.cells #[.int .i64 B'.valid, .int .i64 B'.now, .slice oa1 B'.es.length cap1, .slice ob1 B'.es.length cap1'] 29)).alloc (.cells #[.int .i64 x.num, .int .i64 x.mach, .int .i64 x.amt, .int .i64 x.at_, .int .i64 x.til] 38)
  replace C3 := (C3.alloc (.cells #[.int .i64 B'.valid, .int .i64 B'.now, .slice oa1 B'.es.length cap1, .slice ob1 B'.es.length cap1'] 29)).alloc (.cells #[.int .i64 x.num, .int .i64 x.mach, .int .i64 x.amt, .int .i64 x.at_, .int .i64 x.til] 38)
  replace hv1 := (hv1.alloc (.cells #[.int .i64 B'.valid, .int .i64 B'.now, .slice oa1 B'.es.length cap1, .slice ob1 B'.es.length cap1'] 29)).alloc (.cells #[.int .i64 x.num, .int .i64 x.mach, .int .i64 x.amt, .int .i64 x.at_, .int .i64 x.til] 38)
  replace hr1 := (hr1.alloc (.cells #[.int .i64 B'.valid, .int .i64 B'.now, .slice oa1 B'.es.length cap1, .slice ob1 B'.es.length cap1'] 29)).alloc (.cells #[.int .i64 x.num, .int .i64 x.mach, .int .i64 x.amt, .int .i64 x.at_, .int .i64 x.til] 38)
  replace hb2 : Below w.heap.size w ((w1.alloc (.cells #[.int .i64 B'.valid, .int .i64 B'.now, .slice oa1 B'.es.length cap1, .slice ob1 B'.es.length cap1'] 29)).alloc (.cells #[.int .i64 x.num, .int .i64 x.mach, .int .i64 x.amt, .int .i64 x.at_, .int .i64 x.til] 38)) := (hb2.alloc (by omega) _).alloc (by simp; omega) _
  generalize (w1.alloc (.cells #[.int .i64 B'.valid, .int .i64 B'.now, .slice oa1 B'.es.length cap1, .slice ob1 B'.es.length cap1'] 29)).alloc (.cells #[.int .i64 x.num, .int .i64 x.mach, .int .i64 x.amt, .int .i64 x.at_, .int .i64 x.til] 38) = W at *
  clear C0
  have a0 : W.cell? ⟨w1.heap.size, 0, none⟩ = some (.int .i64 B'.valid) := E0.cell 0
  have a1 : W.cell? ⟨w1.heap.size, 1, none⟩ = some (.int .i64 B'.now) := E0.cell 1
  have a2 : W.cell? ⟨w1.heap.size, 2, none⟩ = some (.slice oa1 B'.es.length cap1) := E0.cell 2
  have a3 : W.cell? ⟨w1.heap.size, 3, none⟩ = some (.slice ob1 B'.es.length cap1') := E0.cell 3
  have d0 : W.cell? ⟨w1.heap.size + 1, 0, none⟩ = some (.int .i64 x.num) := E1.cell 0
  have d1 : W.cell? ⟨w1.heap.size + 1, 1, none⟩ = some (.int .i64 x.mach) := E1.cell 1
  have d2 : W.cell? ⟨w1.heap.size + 1, 2, none⟩ = some (.int .i64 x.amt) := E1.cell 2
  have d3 : W.cell? ⟨w1.heap.size + 1, 3, none⟩ = some (.int .i64 x.at_) := E1.cell 3
  have d4 : W.cell? ⟨w1.heap.size + 1, 4, none⟩ = some (.int .i64 x.til) := E1.cell 4
  have c2 := C2.cell
  have f2 := C2.free
  have l2 := C2.lt
  have c3 := C3.cell
  have f3 := C3.free
  have l3 := C3.lt
  have n1 : ¬ w1.heap.size = w.heap.size + 2 := by omega
  have n2 : ¬ w1.heap.size = w.heap.size + 3 := by omega
  have n3 : ¬ w1.heap.size + 1 = w.heap.size + 2 := by omega
  have n4 : ¬ w1.heap.size + 1 = w.heap.size + 3 := by omega
  have n5 : ¬ w.heap.size + 2 = w1.heap.size := by omega
  have n6 : ¬ w.heap.size + 3 = w1.heap.size := by omega
  have n7 : ¬ w.heap.size + 2 = w1.heap.size + 1 := by omega
  have n8 : ¬ w.heap.size + 3 = w1.heap.size + 1 := by omega
  go_region_held3 (fun w' => w'.cell? ⟨w1.heap.size, 0, none⟩ = some (.int .i64 B'.valid) ∧ w'.cell? ⟨w1.heap.size, 1, none⟩ = some (.int .i64 B'.now) ∧ w'.cell? ⟨w1.heap.size, 2, none⟩ = some (.slice oa1 B'.es.length cap1) ∧ w'.cell? ⟨w1.heap.size, 3, none⟩ = some (.slice ob1 B'.es.length cap1') ∧
    w'.cell? ⟨w1.heap.size + 1, 0, none⟩ = some (.int .i64 x.num) ∧ w'.cell? ⟨w1.heap.size + 1, 1, none⟩ = some (.int .i64 x.mach) ∧ w'.cell? ⟨w1.heap.size + 1, 2, none⟩ = some (.int .i64 x.amt) ∧ w'.cell? ⟨w1.heap.size + 1, 3, none⟩ = some (.int .i64 x.at_) ∧ w'.cell? ⟨w1.heap.size + 1, 4, none⟩ = some (.int .i64 x.til)) (go_keep) (fail)
  all_goals (
    go_wp2_with fail
    refine bodyPost_ret (v := .tuple #[.agg #[.int .i64 B'.valid, .int .i64 B'.now, .slice oa1 B'.es.length cap1, .slice ob1 B'.es.length cap1'], .agg #[.int .i64 x.num, .int .i64 x.mach, .int .i64 x.amt, .int .i64 x.at_, .int .i64 x.til], .int .i64 0, .int .i64 er]) (by simp only [results, Try.results16]; go_simp; first | done | rfl) rfl (fin.out _ _ ⟨_, _, _, rfl, ⟨rfl, ?_, ?_⟩, ?_, hg1, hg2⟩)
    · repeat (first | (with_reducible exact hv1) | (with_reducible refine own_drew ?_) | (with_reducible refine World.ownsRow.alloc ?_ _) | ((with_reducible refine ownsRow_setCell_other ?_ ?_ _); rotate_left; (intro h; have hq := hfv _ h; dsimp only at hq; omega)))
    · repeat (first | (with_reducible exact hr1) | (with_reducible refine own_drew ?_) | (with_reducible refine World.ownsRow.alloc ?_ _) | ((with_reducible refine ownsRow_setCell_other ?_ ?_ _); rotate_left; (intro h; have hq := hfr _ h; dsimp only at hq; omega)))
    · repeat (first | (with_reducible exact Below.refl _ _) | (with_reducible assumption) | (with_reducible refine Below.drew ?_) | ((with_reducible refine Below.alloc ?_ ?_ _); rotate_left; (first | (with_reducible exact Nat.zero_le _) | (with_reducible exact Nat.le_refl _) | omega | (dsimp only; omega) | (simp only [World.size_alloc, World.size_setCell, World.size_drew]; omega))) | ((with_reducible refine Below.setCell ?_ ?_ _); rotate_left; (first | (with_reducible exact Nat.zero_le _) | (with_reducible exact Nat.le_refl _) | omega | (dsimp only; omega) | (simp only [World.size_alloc, World.size_setCell, World.size_drew]; omega)))))


set_option maxHeartbeats 1000000 in
theorem model_1 {w : World} {v vs rs : Value} {B : Bk} (hB : RHolds w v B vs rs) (hok : BkOk B) (k a b' t : Int) (hk : k = 1) :
    Calls Try.prog 16 #[v, .agg (encS ⟨k, a, b', t⟩).toArray] w (mdOut w B vs rs ⟨k, a, b', t⟩) := by
  have hv0 := own_lt hB.vown
  have hr0 := own_lt hB.rown
  have heq := hB.eq
  subst heq
  have K0 : Blk ((((w.alloc (.cells #[.int .i64 B.valid, .int .i64 B.now, vs, rs] 29)).alloc (.cells #[.int .i64 k, .int .i64 a, .int .i64 b', .int .i64 t] 42)).alloc (.cells #[.int .i64 0, .int .i64 0, .slice none 0 0, .slice none 0 0] 29)).alloc (.cells #[.int .i64 0, .int .i64 0, .int .i64 0, .int .i64 0, .int .i64 0] 38)) w.heap.size 29 #[.int .i64 B.valid, .int .i64 B.now, vs, rs] := (Blk.new w 29 #[.int .i64 B.valid, .int .i64 B.now, vs, rs]).step (by ((repeat (first | exact Below.refl _ _ | refine Below.drew ?_ | refine Below.alloc ?_ (by first | exact Nat.le_refl _ | omega | (simp only [World.size_alloc, World.size_drew, World.size_setCell]; omega)) _)); first | (fail_if_success (focus skip)) | fail))
  have K1 : Blk ((((w.alloc (.cells #[.int .i64 B.valid, .int .i64 B.now, vs, rs] 29)).alloc (.cells #[.int .i64 k, .int .i64 a, .int .i64 b', .int .i64 t] 42)).alloc (.cells #[.int .i64 0, .int .i64 0, .slice none 0 0, .slice none 0 0] 29)).alloc (.cells #[.int .i64 0, .int .i64 0, .int .i64 0, .int .i64 0, .int .i64 0] 38)) (w.heap.size + 1) 42 #[.int .i64 k, .int .i64 a, .int .i64 b', .int .i64 t] := by
    have := (Blk.new (w.alloc (.cells #[.int .i64 B.valid, .int .i64 B.now, vs, rs] 29)) 42 #[.int .i64 k, .int .i64 a, .int .i64 b', .int .i64 t]).step (w' := ((((w.alloc (.cells #[.int .i64 B.valid, .int .i64 B.now, vs, rs] 29)).alloc (.cells #[.int .i64 k, .int .i64 a, .int .i64 b', .int .i64 t] 42)).alloc (.cells #[.int .i64 0, .int .i64 0, .slice none 0 0, .slice none 0 0] 29)).alloc (.cells #[.int .i64 0, .int .i64 0, .int .i64 0, .int .i64 0, .int .i64 0] 38))) (by ((repeat (first | exact Below.refl _ _ | refine Below.drew ?_ | refine Below.alloc ?_ (by first | exact Nat.le_refl _ | omega | (simp only [World.size_alloc, World.size_drew, World.size_setCell]; omega)) _)); first | (fail_if_success (focus skip)) | fail))
    simpa using this
  have K2 : Blk ((((w.alloc (.cells #[.int .i64 B.valid, .int .i64 B.now, vs, rs] 29)).alloc (.cells #[.int .i64 k, .int .i64 a, .int .i64 b', .int .i64 t] 42)).alloc (.cells #[.int .i64 0, .int .i64 0, .slice none 0 0, .slice none 0 0] 29)).alloc (.cells #[.int .i64 0, .int .i64 0, .int .i64 0, .int .i64 0, .int .i64 0] 38)) (w.heap.size + 2) 29 #[.int .i64 0, .int .i64 0, .slice none 0 0, .slice none 0 0] := by
    have := (Blk.new ((w.alloc (.cells #[.int .i64 B.valid, .int .i64 B.now, vs, rs] 29)).alloc (.cells #[.int .i64 k, .int .i64 a, .int .i64 b', .int .i64 t] 42)) 29 #[.int .i64 0, .int .i64 0, .slice none 0 0, .slice none 0 0]).step (w' := ((((w.alloc (.cells #[.int .i64 B.valid, .int .i64 B.now, vs, rs] 29)).alloc (.cells #[.int .i64 k, .int .i64 a, .int .i64 b', .int .i64 t] 42)).alloc (.cells #[.int .i64 0, .int .i64 0, .slice none 0 0, .slice none 0 0] 29)).alloc (.cells #[.int .i64 0, .int .i64 0, .int .i64 0, .int .i64 0, .int .i64 0] 38))) (by ((repeat (first | exact Below.refl _ _ | refine Below.drew ?_ | refine Below.alloc ?_ (by first | exact Nat.le_refl _ | omega | (simp only [World.size_alloc, World.size_drew, World.size_setCell]; omega)) _)); first | (fail_if_success (focus skip)) | fail))
    simpa using this
  have K3 : Blk ((((w.alloc (.cells #[.int .i64 B.valid, .int .i64 B.now, vs, rs] 29)).alloc (.cells #[.int .i64 k, .int .i64 a, .int .i64 b', .int .i64 t] 42)).alloc (.cells #[.int .i64 0, .int .i64 0, .slice none 0 0, .slice none 0 0] 29)).alloc (.cells #[.int .i64 0, .int .i64 0, .int .i64 0, .int .i64 0, .int .i64 0] 38)) (w.heap.size + 3) 38 #[.int .i64 0, .int .i64 0, .int .i64 0, .int .i64 0, .int .i64 0] := by
    have := Blk.new (((w.alloc (.cells #[.int .i64 B.valid, .int .i64 B.now, vs, rs] 29)).alloc (.cells #[.int .i64 k, .int .i64 a, .int .i64 b', .int .i64 t] 42)).alloc (.cells #[.int .i64 0, .int .i64 0, .slice none 0 0, .slice none 0 0] 29)) 38 #[.int .i64 0, .int .i64 0, .int .i64 0, .int .i64 0, .int .i64 0]
    simpa using this
  have ZU : Below w.heap.size w ((((w.alloc (.cells #[.int .i64 B.valid, .int .i64 B.now, vs, rs] 29)).alloc (.cells #[.int .i64 k, .int .i64 a, .int .i64 b', .int .i64 t] 42)).alloc (.cells #[.int .i64 0, .int .i64 0, .slice none 0 0, .slice none 0 0] 29)).alloc (.cells #[.int .i64 0, .int .i64 0, .int .i64 0, .int .i64 0, .int .i64 0] 38)) := by ((repeat (first | exact Below.refl _ _ | refine Below.drew ?_ | refine Below.alloc ?_ (by first | exact Nat.le_refl _ | omega | (simp only [World.size_alloc, World.size_drew, World.size_setCell]; omega)) _)); first | (fail_if_success (focus skip)) | fail)
  have hUs : ((((w.alloc (.cells #[.int .i64 B.valid, .int .i64 B.now, vs, rs] 29)).alloc (.cells #[.int .i64 k, .int .i64 a, .int .i64 b', .int .i64 t] 42)).alloc (.cells #[.int .i64 0, .int .i64 0, .slice none 0 0, .slice none 0 0] 29)).alloc (.cells #[.int .i64 0, .int .i64 0, .int .i64 0, .int .i64 0, .int .i64 0] 38)).heap.size = w.heap.size + 4 := by simp
  have hB2 := hB.step ZU
  have fin : ∀ (e : Ending) (w' : World) (x : Ent) (n er : Int) (B' : Bk), stV B ⟨k, a, b', t⟩ = x → stN B ⟨k, a, b', t⟩ = n → stE B ⟨k, a, b', t⟩ = er → stB B ⟨k, a, b', t⟩ = B' → 
      (∃ v vs' rs', e = .returned (.tuple #[v, .agg (encV (x)).toArray, .int .i64 n, .int .i64 er]) ∧ RHolds w' v B' vs' rs' ∧ Below w.heap.size w w' ∧ Fresh w vs vs' ∧ Fresh w rs rs') → mdOut w B vs rs ⟨k, a, b', t⟩ e w' := by
    intro e w' v n er B' h1 h2 h3 h4 h
    unfold mdOut
    rw [h1, h2, h3, h4]
    exact h
  unfold encS
  obtain ⟨oa, cap, hvs⟩ := ownsRow_shape hB.vown
  obtain ⟨ob, cap', hrs⟩ := ownsRow_shape hB.rown
  subst hk
  replace fin := Lib.hid (fin · · ent0 (redV B a t) (redE B a t) (redB B a t) rfl rfl rfl rfl)
  subst hvs hrs
  go_enter Try.func16, Try.ntmps16
  go_wp2_with fail
  refine (rredeem_any hB2 hok a t).mono ?_
  rintro e w1 ⟨v1, vs1, rs1, rfl, ⟨rfl, hv1, hr1⟩, hb1, hf1, hf2⟩
  have hfv := fresh_far hv0 hf1
  have hg1 := fresh_low ZU.size hf1
  have hg2 := fresh_low ZU.size hf2
  have hfr := fresh_far hr0 hf2
  rw [hUs] at hfv hfr
  obtain ⟨oa1, cap1, rfl⟩ := ownsRow_shape hv1
  obtain ⟨ob1, cap1', rfl⟩ := ownsRow_shape hr1
  have C0 := K0.step hb1
  have C2 := K2.step hb1
  have C3 := K3.step hb1
  have hz1 := hb1.size
  rw [hUs] at hz1
  have hb2 : Below w.heap.size w w1 := ZU.trans (hb1.mono (by omega))
  clear K0 K1 K2 K3 ZU hUs hb1 hB2 hf1 hf2 hv0 hr0
  generalize redB B a t = B' at *
  have c2 := C2.cell
  have f2 := C2.free
  have l2 := C2.lt
  have c3 := C3.cell
  have f3 := C3.free
  have l3 := C3.lt
  go_wp2_with fail
  refine bodyPost_ret (v := .tuple #[.agg #[.int .i64 B'.valid, .int .i64 B'.now, .slice oa1 B'.es.length cap1, .slice ob1 B'.es.length cap1'], .agg #[.int .i64 0, .int .i64 0, .int .i64 0, .int .i64 0, .int .i64 0], .int .i64 (redV B a t), .int .i64 (redE B a t)]) (by simp only [results, Try.results16]; go_simp; first | done | rfl) rfl (fin.out _ _ ⟨_, _, _, rfl, ⟨rfl, ?_, ?_⟩, ?_, hg1, hg2⟩)
  · repeat (first | (with_reducible exact hv1) | (with_reducible refine own_drew ?_) | (with_reducible refine World.ownsRow.alloc ?_ _) | ((with_reducible refine ownsRow_setCell_other ?_ ?_ _); rotate_left; (intro h; have hq := hfv _ h; dsimp only at hq; omega)))
  · repeat (first | (with_reducible exact hr1) | (with_reducible refine own_drew ?_) | (with_reducible refine World.ownsRow.alloc ?_ _) | ((with_reducible refine ownsRow_setCell_other ?_ ?_ _); rotate_left; (intro h; have hq := hfr _ h; dsimp only at hq; omega)))
  · repeat (first | (with_reducible exact Below.refl _ _) | (with_reducible assumption) | (with_reducible refine Below.drew ?_) | ((with_reducible refine Below.alloc ?_ ?_ _); rotate_left; (first | (with_reducible exact Nat.zero_le _) | (with_reducible exact Nat.le_refl _) | omega | (dsimp only; omega) | (simp only [World.size_alloc, World.size_setCell, World.size_drew]; omega))) | ((with_reducible refine Below.setCell ?_ ?_ _); rotate_left; (first | (with_reducible exact Nat.zero_le _) | (with_reducible exact Nat.le_refl _) | omega | (dsimp only; omega) | (simp only [World.size_alloc, World.size_setCell, World.size_drew]; omega))))


set_option maxHeartbeats 1000000 in
theorem model_2 {w : World} {v vs rs : Value} {B : Bk} (hB : RHolds w v B vs rs) (hok : BkOk B) (k a b' t : Int) (hk : k = 2) :
    Calls Try.prog 16 #[v, .agg (encS ⟨k, a, b', t⟩).toArray] w (mdOut w B vs rs ⟨k, a, b', t⟩) := by
  have hv0 := own_lt hB.vown
  have hr0 := own_lt hB.rown
  have heq := hB.eq
  subst heq
  have K0 : Blk ((((w.alloc (.cells #[.int .i64 B.valid, .int .i64 B.now, vs, rs] 29)).alloc (.cells #[.int .i64 k, .int .i64 a, .int .i64 b', .int .i64 t] 42)).alloc (.cells #[.int .i64 0, .int .i64 0, .slice none 0 0, .slice none 0 0] 29)).alloc (.cells #[.int .i64 0, .int .i64 0, .int .i64 0, .int .i64 0, .int .i64 0] 38)) w.heap.size 29 #[.int .i64 B.valid, .int .i64 B.now, vs, rs] := (Blk.new w 29 #[.int .i64 B.valid, .int .i64 B.now, vs, rs]).step (by ((repeat (first | exact Below.refl _ _ | refine Below.drew ?_ | refine Below.alloc ?_ (by first | exact Nat.le_refl _ | omega | (simp only [World.size_alloc, World.size_drew, World.size_setCell]; omega)) _)); first | (fail_if_success (focus skip)) | fail))
  have K1 : Blk ((((w.alloc (.cells #[.int .i64 B.valid, .int .i64 B.now, vs, rs] 29)).alloc (.cells #[.int .i64 k, .int .i64 a, .int .i64 b', .int .i64 t] 42)).alloc (.cells #[.int .i64 0, .int .i64 0, .slice none 0 0, .slice none 0 0] 29)).alloc (.cells #[.int .i64 0, .int .i64 0, .int .i64 0, .int .i64 0, .int .i64 0] 38)) (w.heap.size + 1) 42 #[.int .i64 k, .int .i64 a, .int .i64 b', .int .i64 t] := by
    have := (Blk.new (w.alloc (.cells #[.int .i64 B.valid, .int .i64 B.now, vs, rs] 29)) 42 #[.int .i64 k, .int .i64 a, .int .i64 b', .int .i64 t]).step (w' := ((((w.alloc (.cells #[.int .i64 B.valid, .int .i64 B.now, vs, rs] 29)).alloc (.cells #[.int .i64 k, .int .i64 a, .int .i64 b', .int .i64 t] 42)).alloc (.cells #[.int .i64 0, .int .i64 0, .slice none 0 0, .slice none 0 0] 29)).alloc (.cells #[.int .i64 0, .int .i64 0, .int .i64 0, .int .i64 0, .int .i64 0] 38))) (by ((repeat (first | exact Below.refl _ _ | refine Below.drew ?_ | refine Below.alloc ?_ (by first | exact Nat.le_refl _ | omega | (simp only [World.size_alloc, World.size_drew, World.size_setCell]; omega)) _)); first | (fail_if_success (focus skip)) | fail))
    simpa using this
  have K2 : Blk ((((w.alloc (.cells #[.int .i64 B.valid, .int .i64 B.now, vs, rs] 29)).alloc (.cells #[.int .i64 k, .int .i64 a, .int .i64 b', .int .i64 t] 42)).alloc (.cells #[.int .i64 0, .int .i64 0, .slice none 0 0, .slice none 0 0] 29)).alloc (.cells #[.int .i64 0, .int .i64 0, .int .i64 0, .int .i64 0, .int .i64 0] 38)) (w.heap.size + 2) 29 #[.int .i64 0, .int .i64 0, .slice none 0 0, .slice none 0 0] := by
    have := (Blk.new ((w.alloc (.cells #[.int .i64 B.valid, .int .i64 B.now, vs, rs] 29)).alloc (.cells #[.int .i64 k, .int .i64 a, .int .i64 b', .int .i64 t] 42)) 29 #[.int .i64 0, .int .i64 0, .slice none 0 0, .slice none 0 0]).step (w' := ((((w.alloc (.cells #[.int .i64 B.valid, .int .i64 B.now, vs, rs] 29)).alloc (.cells #[.int .i64 k, .int .i64 a, .int .i64 b', .int .i64 t] 42)).alloc (.cells #[.int .i64 0, .int .i64 0, .slice none 0 0, .slice none 0 0] 29)).alloc (.cells #[.int .i64 0, .int .i64 0, .int .i64 0, .int .i64 0, .int .i64 0] 38))) (by ((repeat (first | exact Below.refl _ _ | refine Below.drew ?_ | refine Below.alloc ?_ (by first | exact Nat.le_refl _ | omega | (simp only [World.size_alloc, World.size_drew, World.size_setCell]; omega)) _)); first | (fail_if_success (focus skip)) | fail))
    simpa using this
  have K3 : Blk ((((w.alloc (.cells #[.int .i64 B.valid, .int .i64 B.now, vs, rs] 29)).alloc (.cells #[.int .i64 k, .int .i64 a, .int .i64 b', .int .i64 t] 42)).alloc (.cells #[.int .i64 0, .int .i64 0, .slice none 0 0, .slice none 0 0] 29)).alloc (.cells #[.int .i64 0, .int .i64 0, .int .i64 0, .int .i64 0, .int .i64 0] 38)) (w.heap.size + 3) 38 #[.int .i64 0, .int .i64 0, .int .i64 0, .int .i64 0, .int .i64 0] := by
    have := Blk.new (((w.alloc (.cells #[.int .i64 B.valid, .int .i64 B.now, vs, rs] 29)).alloc (.cells #[.int .i64 k, .int .i64 a, .int .i64 b', .int .i64 t] 42)).alloc (.cells #[.int .i64 0, .int .i64 0, .slice none 0 0, .slice none 0 0] 29)) 38 #[.int .i64 0, .int .i64 0, .int .i64 0, .int .i64 0, .int .i64 0]
    simpa using this
  have ZU : Below w.heap.size w ((((w.alloc (.cells #[.int .i64 B.valid, .int .i64 B.now, vs, rs] 29)).alloc (.cells #[.int .i64 k, .int .i64 a, .int .i64 b', .int .i64 t] 42)).alloc (.cells #[.int .i64 0, .int .i64 0, .slice none 0 0, .slice none 0 0] 29)).alloc (.cells #[.int .i64 0, .int .i64 0, .int .i64 0, .int .i64 0, .int .i64 0] 38)) := by ((repeat (first | exact Below.refl _ _ | refine Below.drew ?_ | refine Below.alloc ?_ (by first | exact Nat.le_refl _ | omega | (simp only [World.size_alloc, World.size_drew, World.size_setCell]; omega)) _)); first | (fail_if_success (focus skip)) | fail)
  have hUs : ((((w.alloc (.cells #[.int .i64 B.valid, .int .i64 B.now, vs, rs] 29)).alloc (.cells #[.int .i64 k, .int .i64 a, .int .i64 b', .int .i64 t] 42)).alloc (.cells #[.int .i64 0, .int .i64 0, .slice none 0 0, .slice none 0 0] 29)).alloc (.cells #[.int .i64 0, .int .i64 0, .int .i64 0, .int .i64 0, .int .i64 0] 38)).heap.size = w.heap.size + 4 := by simp
  have hB2 := hB.step ZU
  have fin : ∀ (e : Ending) (w' : World) (x : Ent) (n er : Int) (B' : Bk), stV B ⟨k, a, b', t⟩ = x → stN B ⟨k, a, b', t⟩ = n → stE B ⟨k, a, b', t⟩ = er → stB B ⟨k, a, b', t⟩ = B' → 
      (∃ v vs' rs', e = .returned (.tuple #[v, .agg (encV (x)).toArray, .int .i64 n, .int .i64 er]) ∧ RHolds w' v B' vs' rs' ∧ Below w.heap.size w w' ∧ Fresh w vs vs' ∧ Fresh w rs rs') → mdOut w B vs rs ⟨k, a, b', t⟩ e w' := by
    intro e w' v n er B' h1 h2 h3 h4 h
    unfold mdOut
    rw [h1, h2, h3, h4]
    exact h
  unfold encS
  obtain ⟨oa, cap, hvs⟩ := ownsRow_shape hB.vown
  obtain ⟨ob, cap', hrs⟩ := ownsRow_shape hB.rown
  have h0 : k ≠ 0 := by omega
  have h1 : k ≠ 1 := by omega
  have h0' : (k == 0) = false := by simpa using h0
  have h1' : (k == 1) = false := by simpa using h1
  have hfv : ∀ j, vs.ownBlock = some j → j < w.heap.size ∨ w.heap.size + 4 ≤ j := fun j hj => .inl (hv0 j hj)
  have hfr : ∀ j, rs.ownBlock = some j → j < w.heap.size ∨ w.heap.size + 4 ≤ j := fun j hj => .inl (hr0 j hj)
  subst hk
  replace fin := Lib.hid (fin · · ent0 (openV B t) (momE B t) B rfl rfl rfl rfl)
  subst hvs hrs
  go_enter Try.func16, Try.ntmps16
  go_wp2_with fail
  refine (rsums_any hB2 hok t).mono ?_
  rintro e w1 ⟨rfl, hb1⟩
  have C0 := K0.step hb1
  have C1 := K1.step hb1
  have C2 := K2.step hb1
  have C3 := K3.step hb1
  have hv1 := (hB2.step hb1).vown
  have hr1 := (hB2.step hb1).rown
  have hz1 := hb1.size
  rw [hUs] at hz1
  have hb2 : Below w.heap.size w w1 := ZU.trans (hb1.mono (by omega))
  clear K0 K1 K2 K3 ZU hUs hb1 hB2 hv0 hr0
  have c0 := C0.cell
  have c1 := C1.cell
  have l0 := C0.lt
  have l1 := C1.lt
  have c2 := C2.cell
  have f2 := C2.free
  have l2 := C2.lt
  have c3 := C3.cell
  have f3 := C3.free
  have l3 := C3.lt
  go_wp2_with fail
  refine bodyPost_ret (v := .tuple #[.agg #[.int .i64 B.valid, .int .i64 B.now, .slice oa B.es.length cap, .slice ob B.es.length cap'], .agg #[.int .i64 0, .int .i64 0, .int .i64 0, .int .i64 0, .int .i64 0], .int .i64 (openV B t), .int .i64 (momE B t)]) (by simp only [results, Try.results16]; go_simp; first | done | rfl) rfl (fin.out _ _ ⟨_, _, _, rfl, ⟨rfl, ?_, ?_⟩, ?_, .inl rfl, .inl rfl⟩)
  · repeat (first | (with_reducible exact hv1) | (with_reducible refine own_drew ?_) | (with_reducible refine World.ownsRow.alloc ?_ _) | ((with_reducible refine ownsRow_setCell_other ?_ ?_ _); rotate_left; (intro h; have hq := hfv _ h; dsimp only at hq; omega)))
  · repeat (first | (with_reducible exact hr1) | (with_reducible refine own_drew ?_) | (with_reducible refine World.ownsRow.alloc ?_ _) | ((with_reducible refine ownsRow_setCell_other ?_ ?_ _); rotate_left; (intro h; have hq := hfr _ h; dsimp only at hq; omega)))
  · repeat (first | (with_reducible exact Below.refl _ _) | (with_reducible assumption) | (with_reducible refine Below.drew ?_) | ((with_reducible refine Below.alloc ?_ ?_ _); rotate_left; (first | (with_reducible exact Nat.zero_le _) | (with_reducible exact Nat.le_refl _) | omega | (dsimp only; omega) | (simp only [World.size_alloc, World.size_setCell, World.size_drew]; omega))) | ((with_reducible refine Below.setCell ?_ ?_ _); rotate_left; (first | (with_reducible exact Nat.zero_le _) | (with_reducible exact Nat.le_refl _) | omega | (dsimp only; omega) | (simp only [World.size_alloc, World.size_setCell, World.size_drew]; omega))))


set_option maxHeartbeats 1000000 in
theorem model_3 {w : World} {v vs rs : Value} {B : Bk} (hB : RHolds w v B vs rs) (hok : BkOk B) (k a b' t : Int) (hk : k ≠ 0 ∧ k ≠ 1 ∧ k ≠ 2) :
    Calls Try.prog 16 #[v, .agg (encS ⟨k, a, b', t⟩).toArray] w (mdOut w B vs rs ⟨k, a, b', t⟩) := by
  have hv0 := own_lt hB.vown
  have hr0 := own_lt hB.rown
  have heq := hB.eq
  subst heq
  have K0 : Blk ((((w.alloc (.cells #[.int .i64 B.valid, .int .i64 B.now, vs, rs] 29)).alloc (.cells #[.int .i64 k, .int .i64 a, .int .i64 b', .int .i64 t] 42)).alloc (.cells #[.int .i64 0, .int .i64 0, .slice none 0 0, .slice none 0 0] 29)).alloc (.cells #[.int .i64 0, .int .i64 0, .int .i64 0, .int .i64 0, .int .i64 0] 38)) w.heap.size 29 #[.int .i64 B.valid, .int .i64 B.now, vs, rs] := (Blk.new w 29 #[.int .i64 B.valid, .int .i64 B.now, vs, rs]).step (by ((repeat (first | exact Below.refl _ _ | refine Below.drew ?_ | refine Below.alloc ?_ (by first | exact Nat.le_refl _ | omega | (simp only [World.size_alloc, World.size_drew, World.size_setCell]; omega)) _)); first | (fail_if_success (focus skip)) | fail))
  have K1 : Blk ((((w.alloc (.cells #[.int .i64 B.valid, .int .i64 B.now, vs, rs] 29)).alloc (.cells #[.int .i64 k, .int .i64 a, .int .i64 b', .int .i64 t] 42)).alloc (.cells #[.int .i64 0, .int .i64 0, .slice none 0 0, .slice none 0 0] 29)).alloc (.cells #[.int .i64 0, .int .i64 0, .int .i64 0, .int .i64 0, .int .i64 0] 38)) (w.heap.size + 1) 42 #[.int .i64 k, .int .i64 a, .int .i64 b', .int .i64 t] := by
    have := (Blk.new (w.alloc (.cells #[.int .i64 B.valid, .int .i64 B.now, vs, rs] 29)) 42 #[.int .i64 k, .int .i64 a, .int .i64 b', .int .i64 t]).step (w' := ((((w.alloc (.cells #[.int .i64 B.valid, .int .i64 B.now, vs, rs] 29)).alloc (.cells #[.int .i64 k, .int .i64 a, .int .i64 b', .int .i64 t] 42)).alloc (.cells #[.int .i64 0, .int .i64 0, .slice none 0 0, .slice none 0 0] 29)).alloc (.cells #[.int .i64 0, .int .i64 0, .int .i64 0, .int .i64 0, .int .i64 0] 38))) (by ((repeat (first | exact Below.refl _ _ | refine Below.drew ?_ | refine Below.alloc ?_ (by first | exact Nat.le_refl _ | omega | (simp only [World.size_alloc, World.size_drew, World.size_setCell]; omega)) _)); first | (fail_if_success (focus skip)) | fail))
    simpa using this
  have K2 : Blk ((((w.alloc (.cells #[.int .i64 B.valid, .int .i64 B.now, vs, rs] 29)).alloc (.cells #[.int .i64 k, .int .i64 a, .int .i64 b', .int .i64 t] 42)).alloc (.cells #[.int .i64 0, .int .i64 0, .slice none 0 0, .slice none 0 0] 29)).alloc (.cells #[.int .i64 0, .int .i64 0, .int .i64 0, .int .i64 0, .int .i64 0] 38)) (w.heap.size + 2) 29 #[.int .i64 0, .int .i64 0, .slice none 0 0, .slice none 0 0] := by
    have := (Blk.new ((w.alloc (.cells #[.int .i64 B.valid, .int .i64 B.now, vs, rs] 29)).alloc (.cells #[.int .i64 k, .int .i64 a, .int .i64 b', .int .i64 t] 42)) 29 #[.int .i64 0, .int .i64 0, .slice none 0 0, .slice none 0 0]).step (w' := ((((w.alloc (.cells #[.int .i64 B.valid, .int .i64 B.now, vs, rs] 29)).alloc (.cells #[.int .i64 k, .int .i64 a, .int .i64 b', .int .i64 t] 42)).alloc (.cells #[.int .i64 0, .int .i64 0, .slice none 0 0, .slice none 0 0] 29)).alloc (.cells #[.int .i64 0, .int .i64 0, .int .i64 0, .int .i64 0, .int .i64 0] 38))) (by ((repeat (first | exact Below.refl _ _ | refine Below.drew ?_ | refine Below.alloc ?_ (by first | exact Nat.le_refl _ | omega | (simp only [World.size_alloc, World.size_drew, World.size_setCell]; omega)) _)); first | (fail_if_success (focus skip)) | fail))
    simpa using this
  have K3 : Blk ((((w.alloc (.cells #[.int .i64 B.valid, .int .i64 B.now, vs, rs] 29)).alloc (.cells #[.int .i64 k, .int .i64 a, .int .i64 b', .int .i64 t] 42)).alloc (.cells #[.int .i64 0, .int .i64 0, .slice none 0 0, .slice none 0 0] 29)).alloc (.cells #[.int .i64 0, .int .i64 0, .int .i64 0, .int .i64 0, .int .i64 0] 38)) (w.heap.size + 3) 38 #[.int .i64 0, .int .i64 0, .int .i64 0, .int .i64 0, .int .i64 0] := by
    have := Blk.new (((w.alloc (.cells #[.int .i64 B.valid, .int .i64 B.now, vs, rs] 29)).alloc (.cells #[.int .i64 k, .int .i64 a, .int .i64 b', .int .i64 t] 42)).alloc (.cells #[.int .i64 0, .int .i64 0, .slice none 0 0, .slice none 0 0] 29)) 38 #[.int .i64 0, .int .i64 0, .int .i64 0, .int .i64 0, .int .i64 0]
    simpa using this
  have ZU : Below w.heap.size w ((((w.alloc (.cells #[.int .i64 B.valid, .int .i64 B.now, vs, rs] 29)).alloc (.cells #[.int .i64 k, .int .i64 a, .int .i64 b', .int .i64 t] 42)).alloc (.cells #[.int .i64 0, .int .i64 0, .slice none 0 0, .slice none 0 0] 29)).alloc (.cells #[.int .i64 0, .int .i64 0, .int .i64 0, .int .i64 0, .int .i64 0] 38)) := by ((repeat (first | exact Below.refl _ _ | refine Below.drew ?_ | refine Below.alloc ?_ (by first | exact Nat.le_refl _ | omega | (simp only [World.size_alloc, World.size_drew, World.size_setCell]; omega)) _)); first | (fail_if_success (focus skip)) | fail)
  have hUs : ((((w.alloc (.cells #[.int .i64 B.valid, .int .i64 B.now, vs, rs] 29)).alloc (.cells #[.int .i64 k, .int .i64 a, .int .i64 b', .int .i64 t] 42)).alloc (.cells #[.int .i64 0, .int .i64 0, .slice none 0 0, .slice none 0 0] 29)).alloc (.cells #[.int .i64 0, .int .i64 0, .int .i64 0, .int .i64 0, .int .i64 0] 38)).heap.size = w.heap.size + 4 := by simp
  have hB2 := hB.step ZU
  have fin : ∀ (e : Ending) (w' : World) (x : Ent) (n er : Int) (B' : Bk), stV B ⟨k, a, b', t⟩ = x → stN B ⟨k, a, b', t⟩ = n → stE B ⟨k, a, b', t⟩ = er → stB B ⟨k, a, b', t⟩ = B' → 
      (∃ v vs' rs', e = .returned (.tuple #[v, .agg (encV (x)).toArray, .int .i64 n, .int .i64 er]) ∧ RHolds w' v B' vs' rs' ∧ Below w.heap.size w w' ∧ Fresh w vs vs' ∧ Fresh w rs rs') → mdOut w B vs rs ⟨k, a, b', t⟩ e w' := by
    intro e w' v n er B' h1 h2 h3 h4 h
    unfold mdOut
    rw [h1, h2, h3, h4]
    exact h
  unfold encS
  obtain ⟨oa, cap, hvs⟩ := ownsRow_shape hB.vown
  obtain ⟨ob, cap', hrs⟩ := ownsRow_shape hB.rown
  have h0 : k ≠ 0 := by omega
  have h1 : k ≠ 1 := by omega
  have h0' : (k == 0) = false := by simpa using h0
  have h1' : (k == 1) = false := by simpa using h1
  have hfv : ∀ j, vs.ownBlock = some j → j < w.heap.size ∨ w.heap.size + 4 ≤ j := fun j hj => .inl (hv0 j hj)
  have hfr : ∀ j, rs.ownBlock = some j → j < w.heap.size ∨ w.heap.size + 4 ≤ j := fun j hj => .inl (hr0 j hj)
  have h2 : k ≠ 2 := hk.2.2
  have h2' : (k == 2) = false := by simpa using h2
  replace fin := Lib.hid (fin · · ent0 (lapV B t) (momE B t) B (by simp [stV, h0]) (by simp [stN, h0, h1, h2]) (by simp [stE, h0, h1]) (by simp [stB, h0, h1]))
  subst hvs hrs
  go_enter Try.func16, Try.ntmps16
  go_wp2_with fail
  refine (rsums_any hB2 hok t).mono ?_
  rintro e w1 ⟨rfl, hb1⟩
  have C0 := K0.step hb1
  have C1 := K1.step hb1
  have C2 := K2.step hb1
  have C3 := K3.step hb1
  have hv1 := (hB2.step hb1).vown
  have hr1 := (hB2.step hb1).rown
  have hz1 := hb1.size
  rw [hUs] at hz1
  have hb2 : Below w.heap.size w w1 := ZU.trans (hb1.mono (by omega))
  clear K0 K1 K2 K3 ZU hUs hb1 hB2 hv0 hr0
  have c0 := C0.cell
  have c1 := C1.cell
  have l0 := C0.lt
  have l1 := C1.lt
  have c2 := C2.cell
  have f2 := C2.free
  have l2 := C2.lt
  have c3 := C3.cell
  have f3 := C3.free
  have l3 := C3.lt
  go_wp2_with fail
  refine bodyPost_ret (v := .tuple #[.agg #[.int .i64 B.valid, .int .i64 B.now, .slice oa B.es.length cap, .slice ob B.es.length cap'], .agg #[.int .i64 0, .int .i64 0, .int .i64 0, .int .i64 0, .int .i64 0], .int .i64 (lapV B t), .int .i64 (momE B t)]) (by simp only [results, Try.results16]; go_simp; first | done | rfl) rfl (fin.out _ _ ⟨_, _, _, rfl, ⟨rfl, ?_, ?_⟩, ?_, .inl rfl, .inl rfl⟩)
  · repeat (first | (with_reducible exact hv1) | (with_reducible refine own_drew ?_) | (with_reducible refine World.ownsRow.alloc ?_ _) | ((with_reducible refine ownsRow_setCell_other ?_ ?_ _); rotate_left; (intro h; have hq := hfv _ h; dsimp only at hq; omega)))
  · repeat (first | (with_reducible exact hr1) | (with_reducible refine own_drew ?_) | (with_reducible refine World.ownsRow.alloc ?_ _) | ((with_reducible refine ownsRow_setCell_other ?_ ?_ _); rotate_left; (intro h; have hq := hfr _ h; dsimp only at hq; omega)))
  · repeat (first | (with_reducible exact Below.refl _ _) | (with_reducible assumption) | (with_reducible refine Below.drew ?_) | ((with_reducible refine Below.alloc ?_ ?_ _); rotate_left; (first | (with_reducible exact Nat.zero_le _) | (with_reducible exact Nat.le_refl _) | omega | (dsimp only; omega) | (simp only [World.size_alloc, World.size_setCell, World.size_drew]; omega))) | ((with_reducible refine Below.setCell ?_ ?_ _); rotate_left; (first | (with_reducible exact Nat.zero_le _) | (with_reducible exact Nat.le_refl _) | omega | (dsimp only; omega) | (simp only [World.size_alloc, World.size_setCell, World.size_drew]; omega))))


theorem model_any {w : World} {v vs rs : Value} {B : Bk} (hB : RHolds w v B vs rs) (hok : BkOk B) (s : Stp) :
    Calls Try.prog 16 #[v, .agg (encS s).toArray] w (mdOut w B vs rs s) := by
  obtain ⟨k, a, b', t⟩ := s
  by_cases h0 : k = 0
  · exact model_0 hB hok k a b' t h0
  by_cases h1 : k = 1
  · exact model_1 hB hok k a b' t h1
  by_cases h2 : k = 2
  · exact model_2 hB hok k a b' t h2
  exact model_3 hB hok k a b' t ⟨h0, h1, h2⟩

end Go.Proofs.Ytbpeiljpbcgjaaa
