/- Contract: the edges of a balance. -/
import Derived.Test.YthaoclocachbaaaBalB
import Derived.Test.YthaoclocachbaaaBalQ
namespace Go.Proofs.Ythaoclocachbaaa
set_option linter.unusedVariables false
set_option linter.unusedSimpArgs false
open Go.RowKit

def encE (e : Ed) : List Value := [.int .i64 (e.u : Nat), .int .i64 (e.v : Nat), .int .i64 e.lo, .int .i64 e.hi, .int .i64 0]
theorem encE_len (e : Ed) : (encE e).length = 5 := rfl
theorem oneE (m : List Ed) : ∀ u ∈ rowOf encE m, u.oneCell' = true := by
  intro u hu
  unfold rowOf at hu
  obtain ⟨e, _, he⟩ := List.mem_flatMap.1 hu
  simp only [encE, List.mem_cons, List.not_mem_nil, or_false] at he
  rcases he with rfl | rfl | rfl | rfl | rfl <;> rfl
def EdRel (w : World) (L : Nat → List Ed) (N : Nat) (v i : Value) (wr : World) : Prop := ∃ k : Nat, k ≤ N ∧ i = .int .i64 k ∧ Below w.heap.size w wr ∧ wr.ownsRow w.heap.size 60 5 v (L k).length (rowOf encE (L k))
def edOut (w : World) (L : List Ed) (e : Ending) (w' : World) : Prop := ∃ v, e = .returned v ∧ w'.ownsRow w.heap.size 60 5 v L.length (rowOf encE L) ∧ Below w.heap.size w w'
theorem closeEds_len (n : Nat) (c : List Sp) : ∀ k, (closeEds n c k).length ≤ 2 * k
  | 0 => by simp [closeEds]
  | k + 1 => by
    have := closeEds_len n c k
    simp only [closeEds, closeEd, List.length_append, List.length_cons]
    split <;> simp <;> omega

set_option maxRecDepth 100000 in
set_option maxHeartbeats 8000000 in
theorem edges_any {w : World} {vo vl vc : Value} {n : Nat} {o : List Sp} {l : List Tr} {c : List Sp} (ho : RowIn w vo 2 encP o) (hl : RowIn w vl 4 encR l) (hc : RowIn w vc 2 encP c) (hB : BOk n o l) (hcl : c.length = n) (hcv : allV c = true) :
    Calls Try.prog 31 #[.int .i64 (n : Int), vo, vl, vc] w (edOut w (edgesL n o l c)) := by
  obtain ⟨ti, hi, hz, hsi, hby⟩ := info_of (P := Try.prog) (t := 60) (z := .agg #[.int .i64 0, .int .i64 0, .int .i64 0, .int .i64 0, .int .i64 0]) (size := 5) (bytes := 40) (by kernel_rfl)
  obtain ⟨la, cb, rfl, l1, l2, _, hl5⟩ := hl.at_
  obtain ⟨oa, ca, rfl, o1, o2, _, ho5⟩ := ho.at_
  obtain ⟨qa, cq, rfl, q1, q2, _, hq5⟩ := hc.at_
  unfold maxLen at l2 o2 q2
  have HL := Lib.hid hl5
  have HO := Lib.hid ho5
  have HQ := Lib.hid hq5
  clear hl5 ho5 hq5
  have hn8 := hB.n8
  have hfew := hB.few
  have hon : o.length = n := by have := hB.len; omega
  have HB := Lib.hid hB
  have HV := Lib.hid hcv
  clear hB hcv
  have own2 : w.ownsRow w.heap.size 60 5 (.slice none 0 0) 0 [] := ⟨by simp, .inl ⟨rfl, rfl⟩⟩
  rw [hon, hcl]
  rw [hon] at o1
  rw [hcl] at q1
  have HON := Lib.hid hon
  have HCL := Lib.hid hcl
  clear hon hcl
  go_enter Try.func31, Try.ntmps31
  go_wp2_with fail
  go_loopw [10, 21] (fun v i wr => EdRel w (openEds n o) n v i wr) (fun _ i _ => (n - intOf i).toNat)
  case atStart => exact ⟨0, Nat.zero_le _, rfl, Below.refl _ _, own2⟩
  case round =>
    clear own2
    obtain ⟨k, hk, rfl, hb, own⟩ := hrel
    have hsz := hb.size
    by_cases hlt : k < n
    · have hkl : (k : Int) < n := by omega
      have hk0 : (0 : Int) ≤ k := by omega
      obtain ⟨ob, oo, hoo, hoz, hoc⟩ := HO.out (by rintro rfl; have := HON.out; simp at this; omega)
      subst hoo
      have hx : o[k]? = some (o.getD k sp0) := by rw [List.getD_eq_getElem?_getD, List.getElem?_eq_getElem (by have := HON.out; omega)]; rfl
      have e0 : World.cell? wr ⟨ob, oo + k * 2, none⟩ = some (.int .i64 (o.getD k sp0).lo) := (hb.cell (p := ⟨ob, oo + k * 2, none⟩) hoz).trans (hoc k _ hx 0 (by omega))
      have e1 : World.cell? wr ⟨ob, oo + k * 2 + 1, none⟩ = some (.int .i64 (o.getD k sp0).hi) := (hb.cell (p := ⟨ob, oo + k * 2 + 1, none⟩) hoz).trans (hoc k _ hx 1 (by omega))
      have hll := openEds_len n o k
      have hst : openEds n o (k + 1) = openEds n o k ++ [⟨n, k, (o.getD k sp0).lo, (o.getD k sp0).hi⟩] := rfl
      have HST := Lib.hid hst
      clear hst hoc hx
      generalize o.getD k sp0 = s0 at *
      have hbx : Below w.heap.size w ((wr.alloc (.cells #[.int .i64 s0.lo, .int .i64 s0.hi] 41)).alloc (.cells #[.int .i64 (n : Int), .int .i64 (k : Int), .int .i64 s0.lo, .int .i64 s0.hi, .int .i64 0] 60)) := (hb.alloc hsz _).alloc (by simp; omega) _
      have hbw : Below wr.heap.size wr ((wr.alloc (.cells #[.int .i64 s0.lo, .int .i64 s0.hi] 41)).alloc (.cells #[.int .i64 (n : Int), .int .i64 (k : Int), .int .i64 s0.lo, .int .i64 s0.hi, .int .i64 0] 60)) := (Below.alloc (Below.refl _ _) (Nat.le_refl _) _).alloc (by simp) _
      have BE : Blk ((wr.alloc (.cells #[.int .i64 s0.lo, .int .i64 s0.hi] 41)).alloc (.cells #[.int .i64 (n : Int), .int .i64 (k : Int), .int .i64 s0.lo, .int .i64 s0.hi, .int .i64 0] 60)) (wr.heap.size + 1) 60 #[.int .i64 (n : Int), .int .i64 (k : Int), .int .i64 s0.lo, .int .i64 s0.hi, .int .i64 0] := by
        have := Blk.new (wr.alloc (.cells #[.int .i64 s0.lo, .int .i64 s0.hi] 41)) 60 #[.int .i64 (n : Int), .int .i64 (k : Int), .int .i64 s0.lo, .int .i64 s0.hi, .int .i64 0]
        simpa using this
      go_wp2_with (at_builtin; refine wpList_append_any _ rfl _ _ _ rfl w.heap.size 60 ti _ 5 40 Try.underlying55 hi hz hsi hby rfl (by omega) _ (openEds n o k).length _ rfl (ownsRow_step own hbw) _ 1 (encE ⟨n, k, s0.lo, s0.hi⟩) rfl (Src.of_blk BE 1) rfl (fun u hu => oneE [⟨n, k, s0.lo, s0.hi⟩] u (by simpa [rowOf] using hu)) (by simp only [maxLen]; omega) (by omega) (by simp only [World.size_alloc] <;> omega) ?_; intro v5 w5 own5 hg5 hat5)
      have hb5 : Below w.heap.size w w5 := Below.grown hbx hg5 (by simp only [World.size_alloc]; omega) (fun j hj => by
        rcases ownsRow_open own with ⟨rfl, _⟩ | ⟨gg, cc, uu, rfl, hgg, _⟩
        · cases hj
        · have hj' := Option.some.inj hj; dsimp only at hj'; omega)
      go_roundw
      case rel => exact ⟨k + 1, hlt, by simp, hb5, by rw [HST.out, rowOf_append]; simpa [rowOf] using own5⟩
      case measure => simp [intOf]; omega
    · have hkn : k = n := by omega
      subst hkn
      have hll := openEds_len k o k
      have own9 : wr.ownsRow w.heap.size 60 5 u10 (openEds k o k ++ (l.take 0).map trEd).length (rowOf encE (openEds k o k ++ (l.take 0).map trEd)) := by simpa using own
      go_wp2_with fail
      go_loopw [10, 39] (fun v i wr => EdRel w (fun j => openEds k o k ++ (l.take j).map trEd) l.length v i wr) (fun _ i _ => (l.length - intOf i).toNat)
      case atStart => exact ⟨0, Nat.zero_le _, rfl, hb, own9⟩
      case round =>
        clear hb own own9 hsz
        obtain ⟨j, hj, rfl, hb, own⟩ := hrel
        dsimp only at own
        have hsz := hb.size
        by_cases hjt : j < l.length
        · have hjl : (j : Int) < l.length := by omega
          have hj0 : (0 : Int) ≤ j := by omega
          obtain ⟨lb, lo, hlo, hlz, hlc⟩ := HL.out (by rintro rfl; simp at hjt)
          subst hlo
          obtain ⟨x, hx⟩ : ∃ x, l[j]? = some x := ⟨_, List.getElem?_eq_getElem hjt⟩
          have htr := trE_iff.1 (HB.out.tr x (List.mem_of_getElem? hx))
          have hst : (l.take (j + 1)).map trEd = (l.take j).map trEd ++ [trEd x] := by rw [List.take_add_one, hx]; simp
          obtain ⟨xf, xt, m⟩ := x
          obtain ⟨t1, t2, t3, t4, t5, t6⟩ := htr
          dsimp only at t1 t2 t3 t4 t5 t6
          obtain ⟨q, rfl⟩ : ∃ q : Nat, xf = q := ⟨xf.toNat, by omega⟩
          obtain ⟨p, rfl⟩ : ∃ p : Nat, xt = p := ⟨xt.toNat, by omega⟩
          have htE : trEd ⟨(q : Int), (p : Int), m⟩ = ⟨q, p, m.lo, m.hi⟩ := by simp [trEd]
          rw [htE] at hst
          have e0 : World.cell? wr ⟨lb, lo + j * 4, none⟩ = some (.int .i64 q) := (hb.cell (p := ⟨lb, lo + j * 4, none⟩) hlz).trans (hlc j _ hx 0 (by omega))
          have e1 : World.cell? wr ⟨lb, lo + j * 4 + 1, none⟩ = some (.int .i64 p) := (hb.cell (p := ⟨lb, lo + j * 4 + 1, none⟩) hlz).trans (hlc j _ hx 1 (by omega))
          have e2 : World.cell? wr ⟨lb, lo + j * 4 + 2, none⟩ = some (.int .i64 m.lo) := (hb.cell (p := ⟨lb, lo + j * 4 + 2, none⟩) hlz).trans (hlc j _ hx 2 (by omega))
          have e3 : World.cell? wr ⟨lb, lo + j * 4 + 3, none⟩ = some (.int .i64 m.hi) := (hb.cell (p := ⟨lb, lo + j * 4 + 3, none⟩) hlz).trans (hlc j _ hx 3 (by omega))
          have hl9 : (openEds k o k ++ (l.take j).map trEd).length ≤ 80 := by simp [hll]; omega
          have HST := Lib.hid hst
          clear hst hx hlc t1 t2 t3 t4 t5 t6 htE
          generalize (l.take j).map trEd = M at *
          have hbx : Below w.heap.size w ((wr.alloc (.cells #[.int .i64 q, .int .i64 p, .int .i64 m.lo, .int .i64 m.hi] 43)).alloc (.cells #[.int .i64 (q : Int), .int .i64 (p : Int), .int .i64 m.lo, .int .i64 m.hi, .int .i64 0] 60)) := (hb.alloc hsz _).alloc (by simp; omega) _
          have hbw : Below wr.heap.size wr ((wr.alloc (.cells #[.int .i64 q, .int .i64 p, .int .i64 m.lo, .int .i64 m.hi] 43)).alloc (.cells #[.int .i64 (q : Int), .int .i64 (p : Int), .int .i64 m.lo, .int .i64 m.hi, .int .i64 0] 60)) := (Below.alloc (Below.refl _ _) (Nat.le_refl _) _).alloc (by simp) _
          have BE : Blk ((wr.alloc (.cells #[.int .i64 q, .int .i64 p, .int .i64 m.lo, .int .i64 m.hi] 43)).alloc (.cells #[.int .i64 (q : Int), .int .i64 (p : Int), .int .i64 m.lo, .int .i64 m.hi, .int .i64 0] 60)) (wr.heap.size + 1) 60 #[.int .i64 (q : Int), .int .i64 (p : Int), .int .i64 m.lo, .int .i64 m.hi, .int .i64 0] := by
            have := Blk.new (wr.alloc (.cells #[.int .i64 q, .int .i64 p, .int .i64 m.lo, .int .i64 m.hi] 43)) 60 #[.int .i64 (q : Int), .int .i64 (p : Int), .int .i64 m.lo, .int .i64 m.hi, .int .i64 0]
            simpa using this
          go_wp2_with (at_builtin; refine wpList_append_any _ rfl _ _ _ rfl w.heap.size 60 ti _ 5 40 Try.underlying55 hi hz hsi hby rfl (by omega) _ (openEds k o k ++ M).length _ rfl (ownsRow_step own hbw) _ 1 (encE ⟨q, p, m.lo, m.hi⟩) rfl (Src.of_blk BE 1) rfl (fun u hu => oneE [⟨q, p, m.lo, m.hi⟩] u (by simpa [rowOf] using hu)) (by simp only [maxLen]; omega) (by omega) (by simp only [World.size_alloc] <;> omega) ?_; intro v5 w5 own5 hg5 hat5)
          have hb5 : Below w.heap.size w w5 := Below.grown hbx hg5 (by simp only [World.size_alloc]; omega) (fun j hj => by
            rcases ownsRow_open own with ⟨rfl, _⟩ | ⟨gg, cc, uu, rfl, hgg, _⟩
            · cases hj
            · have hj' := Option.some.inj hj; dsimp only at hj'; omega)
          go_roundw
          case rel => exact ⟨j + 1, hjt, by simp, hb5, by
            show w5.ownsRow _ _ _ _ (openEds k o k ++ (l.take (j + 1)).map trEd).length (rowOf encE (openEds k o k ++ (l.take (j + 1)).map trEd))
            rw [HST.out, ← List.append_assoc, rowOf_append]
            simpa [rowOf, Nat.add_assoc] using own5⟩
          case measure => simp [intOf]; omega
        · obtain rfl : j = l.length := by omega
          have own8 : wr.ownsRow w.heap.size 60 5 u10 (openEds k o k ++ (l.map trEd ++ closeEds k c 0)).length (rowOf encE (openEds k o k ++ (l.map trEd ++ closeEds k c 0))) := by
            rw [List.take_length] at own
            simpa [closeEds] using own
          go_wp2_with fail
          go_loopw [10, 60] (fun v i wr => EdRel w (fun j => openEds k o k ++ (l.map trEd ++ closeEds k c j)) k v i wr) (fun _ i _ => (k - intOf i).toNat)
          case atStart => exact ⟨0, Nat.zero_le _, rfl, hb, own8⟩
          case round =>
            clear hb own own8 hsz
            obtain ⟨j, hj, rfl, hb, own⟩ := hrel
            dsimp only at own
            have hsz := hb.size
            by_cases hjt : j < k
            · have hjl : (j : Int) < k := by omega
              have hj0 : (0 : Int) ≤ j := by omega
              obtain ⟨cbk, co, hco, hcz, hcc⟩ := HQ.out (by rintro rfl; have := HCL.out; simp at this; omega)
              subst hco
              have hx : c[j]? = some (c.getD j sp0) := by rw [List.getD_eq_getElem?_getD, List.getElem?_eq_getElem (by have := HCL.out; omega)]; rfl
              have hsv := sval_true (allV_mem HV.out (List.mem_of_getElem? hx))
              have e0 : World.cell? wr ⟨cbk, co + j * 2, none⟩ = some (.int .i64 (c.getD j sp0).lo) := (hb.cell (p := ⟨cbk, co + j * 2, none⟩) hcz).trans (hcc j _ hx 0 (by omega))
              have e1 : World.cell? wr ⟨cbk, co + j * 2 + 1, none⟩ = some (.int .i64 (c.getD j sp0).hi) := (hb.cell (p := ⟨cbk, co + j * 2 + 1, none⟩) hcz).trans (hcc j _ hx 1 (by omega))
              have hcll := closeEds_len k c j
              have hl9 : (openEds k o k ++ (l.map trEd ++ closeEds k c j)).length ≤ 96 := by simp [hll]; omega
              have hst : openEds k o k ++ (l.map trEd ++ closeEds k c (j + 1)) = (openEds k o k ++ (l.map trEd ++ closeEds k c j)) ++ closeEd k j (c.getD j sp0) := by rw [closeEds]; simp
              generalize c.getD j sp0 = s0 at *
              have HST := Lib.hid hst
              clear hst hx hcc hcll
              generalize openEds k o k ++ (l.map trEd ++ closeEds k c j) = M at *
              obtain ⟨s1, s2, s3⟩ := hsv
              by_cases hneg : s0.lo < 0
              · have hcE : closeEd k j s0 = [⟨j, k, 0, s0.hi - s0.lo⟩, ⟨k, j, -s0.lo, -s0.lo⟩] := by unfold closeEd sh; simp [hneg]
                have HCE := Lib.hid hcE
                clear hcE
                have hbx : Below w.heap.size w ((wr.alloc (.cells #[.int .i64 s0.lo, .int .i64 s0.hi] 41)).alloc (.cells #[.int .i64 (j : Int), .int .i64 (k : Int), .int .i64 0, .int .i64 (s0.hi - s0.lo), .int .i64 0] 60)) := (hb.alloc hsz _).alloc (by simp; omega) _
                have hbw : Below wr.heap.size wr ((wr.alloc (.cells #[.int .i64 s0.lo, .int .i64 s0.hi] 41)).alloc (.cells #[.int .i64 (j : Int), .int .i64 (k : Int), .int .i64 0, .int .i64 (s0.hi - s0.lo), .int .i64 0] 60)) := (Below.alloc (Below.refl _ _) (Nat.le_refl _) _).alloc (by simp) _
                have BE : Blk ((wr.alloc (.cells #[.int .i64 s0.lo, .int .i64 s0.hi] 41)).alloc (.cells #[.int .i64 (j : Int), .int .i64 (k : Int), .int .i64 0, .int .i64 (s0.hi - s0.lo), .int .i64 0] 60)) (wr.heap.size + 1) 60 #[.int .i64 (j : Int), .int .i64 (k : Int), .int .i64 0, .int .i64 (s0.hi - s0.lo), .int .i64 0] := by
                  have := Blk.new (wr.alloc (.cells #[.int .i64 s0.lo, .int .i64 s0.hi] 41)) 60 #[.int .i64 (j : Int), .int .i64 (k : Int), .int .i64 0, .int .i64 (s0.hi - s0.lo), .int .i64 0]
                  simpa using this
                go_wp2_with (first | (at_builtin; refine wpList_append_any _ rfl _ _ _ rfl w.heap.size 60 ti _ 5 40 Try.underlying55 hi hz hsi hby rfl (by omega) _ M.length _ rfl (ownsRow_step own hbw) _ 1 (encE ⟨j, k, 0, s0.hi - s0.lo⟩) rfl (Src.of_blk BE 1) rfl (fun u hu => oneE [⟨j, k, 0, s0.hi - s0.lo⟩] u (by simpa [rowOf] using hu)) (by simp only [maxLen]; omega) (by omega) (by simp only [World.size_alloc] <;> omega) ?_; intro v5 w5 own5 hg5 hat5) | (at_builtin; refine wpList_append_any _ rfl _ _ _ rfl w.heap.size 60 ti _ 5 40 Try.underlying55 hi hz hsi hby rfl (by omega) _ (M.length + 1) _ rfl (ownsRow_step own5 (Below.alloc (Below.refl _ _) (Nat.le_refl _) (.cells #[.int .i64 (k : Int), .int .i64 (j : Int), .int .i64 (-s0.lo), .int .i64 (-s0.lo), .int .i64 0] 60))) _ 1 (encE ⟨k, j, -s0.lo, -s0.lo⟩) rfl (Src.of_blk (Blk.new w5 60 #[.int .i64 (k : Int), .int .i64 (j : Int), .int .i64 (-s0.lo), .int .i64 (-s0.lo), .int .i64 0]) 1) rfl (fun u hu => oneE [⟨k, j, -s0.lo, -s0.lo⟩] u (by simpa [rowOf] using hu)) (by simp only [maxLen]; omega) (by omega) (by have := hg5.size; simp only [World.size_alloc] at this ⊢ <;> omega) ?_; intro v6 w6 own6 hg6 hat6))
                have hr5 : ∀ jj, v5.ownBlock = some jj → w.heap.size ≤ jj := fun jj hj => by
                  rcases ownsRow_open own5 with ⟨rfl, _⟩ | ⟨gg, cc, uu, rfl, hgg, _⟩
                  · cases hj
                  · have hj' := Option.some.inj hj; dsimp only at hj'; omega
                have hb5 : Below w.heap.size w w5 := Below.grown hbx hg5 (by simp only [World.size_alloc]; omega) (fun jj hj => by
                  rcases ownsRow_open own with ⟨rfl, _⟩ | ⟨gg, cc, uu, rfl, hgg, _⟩
                  · cases hj
                  · have hj' := Option.some.inj hj; dsimp only at hj'; omega)
                have hs5 := hb5.size
                have hb6 : Below w.heap.size w w6 := Below.grown (hb5.alloc hs5 _) hg6 (by simp only [World.size_alloc]; omega) hr5
                have own7 : w6.ownsRow w.heap.size 60 5 v6 (openEds k o k ++ (l.map trEd ++ closeEds k c (j + 1))).length (rowOf encE (openEds k o k ++ (l.map trEd ++ closeEds k c (j + 1)))) := by
                  rw [HST.out, HCE.out, rowOf_append]
                  simpa [rowOf, Nat.add_assoc, List.append_assoc] using own6
                clear own6 own5 own hg5 hg6 hb5 hbx hbw BE e0 e1 hr5
                go_roundw
                case rel => exact ⟨j + 1, hjt, by simp, hb6, own7⟩
                case measure => simp [intOf]; omega
              · obtain ⟨lo, hi'⟩ := s0
                dsimp only at *
                rcases Int.lt_or_eq_of_le (Int.not_lt.1 hneg) with hp | hp
                · skip
                  have hcE : closeEd k j ⟨lo, hi'⟩ = [⟨j, k, lo, hi'⟩] := by unfold closeEd sh; simp [hneg]
                  have HCE := Lib.hid hcE
                  clear hcE
                  clear hneg
                  have hbx : Below w.heap.size w ((wr.alloc (.cells #[.int .i64 lo, .int .i64 hi'] 41)).alloc (.cells #[.int .i64 (j : Int), .int .i64 (k : Int), .int .i64 lo, .int .i64 hi', .int .i64 0] 60)) := (hb.alloc hsz _).alloc (by simp; omega) _
                  have hbw : Below wr.heap.size wr ((wr.alloc (.cells #[.int .i64 lo, .int .i64 hi'] 41)).alloc (.cells #[.int .i64 (j : Int), .int .i64 (k : Int), .int .i64 lo, .int .i64 hi', .int .i64 0] 60)) := (Below.alloc (Below.refl _ _) (Nat.le_refl _) _).alloc (by simp) _
                  have BE : Blk ((wr.alloc (.cells #[.int .i64 lo, .int .i64 hi'] 41)).alloc (.cells #[.int .i64 (j : Int), .int .i64 (k : Int), .int .i64 lo, .int .i64 hi', .int .i64 0] 60)) (wr.heap.size + 1) 60 #[.int .i64 (j : Int), .int .i64 (k : Int), .int .i64 lo, .int .i64 hi', .int .i64 0] := by
                    have := Blk.new (wr.alloc (.cells #[.int .i64 lo, .int .i64 hi'] 41)) 60 #[.int .i64 (j : Int), .int .i64 (k : Int), .int .i64 lo, .int .i64 hi', .int .i64 0]
                    simpa using this
                  go_wp2_with (at_builtin; refine wpList_append_any _ rfl _ _ _ rfl w.heap.size 60 ti _ 5 40 Try.underlying55 hi hz hsi hby rfl (by omega) _ M.length _ rfl (ownsRow_step own hbw) _ 1 (encE ⟨j, k, lo, hi'⟩) rfl (Src.of_blk BE 1) rfl (fun u hu => oneE [⟨j, k, lo, hi'⟩] u (by simpa [rowOf] using hu)) (by simp only [maxLen]; omega) (by omega) (by simp only [World.size_alloc] <;> omega) ?_; intro v5 w5 own5 hg5 hat5)
                  have hb5 : Below w.heap.size w w5 := Below.grown hbx hg5 (by simp only [World.size_alloc]; omega) (fun jj hj => by
                    rcases ownsRow_open own with ⟨rfl, _⟩ | ⟨gg, cc, uu, rfl, hgg, _⟩
                    · cases hj
                    · have hj' := Option.some.inj hj; dsimp only at hj'; omega)
                  have own7 : w5.ownsRow w.heap.size 60 5 v5 (openEds k o k ++ (l.map trEd ++ closeEds k c (j + 1))).length (rowOf encE (openEds k o k ++ (l.map trEd ++ closeEds k c (j + 1)))) := by
                    rw [HST.out, HCE.out, rowOf_append]
                    simpa [rowOf, Nat.add_assoc, List.append_assoc] using own5
                  clear own5 own hg5 hbx hbw BE e0 e1
                  go_roundw
                  case rel => exact ⟨j + 1, hjt, by simp, hb5, own7⟩
                  case measure => simp [intOf]; omega
                · subst hp
                  skip
                  have hcE : closeEd k j ⟨0, hi'⟩ = [⟨j, k, 0, hi'⟩] := by unfold closeEd sh; simp [hneg]
                  have HCE := Lib.hid hcE
                  clear hcE
                  clear hneg
                  have hbx : Below w.heap.size w ((wr.alloc (.cells #[.int .i64 0, .int .i64 hi'] 41)).alloc (.cells #[.int .i64 (j : Int), .int .i64 (k : Int), .int .i64 0, .int .i64 hi', .int .i64 0] 60)) := (hb.alloc hsz _).alloc (by simp; omega) _
                  have hbw : Below wr.heap.size wr ((wr.alloc (.cells #[.int .i64 0, .int .i64 hi'] 41)).alloc (.cells #[.int .i64 (j : Int), .int .i64 (k : Int), .int .i64 0, .int .i64 hi', .int .i64 0] 60)) := (Below.alloc (Below.refl _ _) (Nat.le_refl _) _).alloc (by simp) _
                  have BE : Blk ((wr.alloc (.cells #[.int .i64 0, .int .i64 hi'] 41)).alloc (.cells #[.int .i64 (j : Int), .int .i64 (k : Int), .int .i64 0, .int .i64 hi', .int .i64 0] 60)) (wr.heap.size + 1) 60 #[.int .i64 (j : Int), .int .i64 (k : Int), .int .i64 0, .int .i64 hi', .int .i64 0] := by
                    have := Blk.new (wr.alloc (.cells #[.int .i64 0, .int .i64 hi'] 41)) 60 #[.int .i64 (j : Int), .int .i64 (k : Int), .int .i64 0, .int .i64 hi', .int .i64 0]
                    simpa using this
                  go_wp2_with (at_builtin; refine wpList_append_any _ rfl _ _ _ rfl w.heap.size 60 ti _ 5 40 Try.underlying55 hi hz hsi hby rfl (by omega) _ M.length _ rfl (ownsRow_step own hbw) _ 1 (encE ⟨j, k, 0, hi'⟩) rfl (Src.of_blk BE 1) rfl (fun u hu => oneE [⟨j, k, 0, hi'⟩] u (by simpa [rowOf] using hu)) (by simp only [maxLen]; omega) (by omega) (by simp only [World.size_alloc] <;> omega) ?_; intro v5 w5 own5 hg5 hat5)
                  have hb5 : Below w.heap.size w w5 := Below.grown hbx hg5 (by simp only [World.size_alloc]; omega) (fun jj hj => by
                    rcases ownsRow_open own with ⟨rfl, _⟩ | ⟨gg, cc, uu, rfl, hgg, _⟩
                    · cases hj
                    · have hj' := Option.some.inj hj; dsimp only at hj'; omega)
                  have own7 : w5.ownsRow w.heap.size 60 5 v5 (openEds k o k ++ (l.map trEd ++ closeEds k c (j + 1))).length (rowOf encE (openEds k o k ++ (l.map trEd ++ closeEds k c (j + 1)))) := by
                    rw [HST.out, HCE.out, rowOf_append]
                    simpa [rowOf, Nat.add_assoc, List.append_assoc] using own5
                  clear own5 own hg5 hbx hbw BE e0 e1
                  go_roundw
                  case rel => exact ⟨j + 1, hjt, by simp, hb5, own7⟩
                  case measure => simp [intOf]; omega
            · obtain rfl : j = k := by omega
              go_wp2_with fail
              go_ret
              refine ⟨_, rfl, ?_, hb⟩
              simpa [edgesL] using own

end Go.Proofs.Ythaoclocachbaaa
