/- Contract of the reference: the arcs of a balance. -/
import Derived.Test.YthaoclocachbaaaBalO
import Derived.Test.YthaoclocachbaaaBalG
import Derived.Test.YthaoclocachbaaaBalC
import Derived.Deep.DeepBigQuietO
namespace Go.Proofs.Ythaoclocachbaaa
set_option linter.unusedVariables false
set_option linter.unusedSimpArgs false
open Go.RowKit

def ArRel (w : World) (L : Nat → List Ed) (N : Nat) (v i : Value) (wr : World) : Prop := ∃ k : Nat, k ≤ N ∧ i = .int .i64 k ∧ Below w.heap.size w wr ∧ wr.ownsRow w.heap.size 63 4 v (L k).length (rowOf encA (L k))
def arOut (w : World) (L : List Ed) (e : Ending) (w' : World) : Prop := ∃ v, e = .returned v ∧ RowIn w' v 4 encA L ∧ Below w.heap.size w w'
theorem own0A {W : World} {base k : Nat} (hk : Blk W k 63 #[]) (hw : base ≤ k) : W.ownsRow base 63 4 (.slice (some ⟨k, 0, none⟩) 0 0) 0 [] :=
  ⟨rfl, .inr ⟨k, 0, #[], rfl, hw, hk, Nat.le_refl _, by simp [maxLen], rfl, rfl⟩⟩
theorem pairEds_len (n : Nat) (o c : List Sp) : ∀ k, (pairEds n o c k).length = 2 * k
  | 0 => rfl
  | k + 1 => by simp [pairEds, pairEds_len n o c k]; omega
theorem arcs_ok {n : Nat} {o : List Sp} {l : List Tr} {c : List Sp} (hB : BOk n o l) (hc : c.length = n) (hv : allV c = true) : ∀ e ∈ arcsL n o l c, ArcB n e := by
  have hn := hB.len
  have h1 : ∀ k, k ≤ n → ∀ e ∈ pairEds n o c k, ArcB n e := by
    intro k
    induction k with
    | zero => intro _ e he; simp [pairEds] at he
    | succ k ih =>
      intro hk e he
      have hk' : k < o.length := by omega
      have hk2 : k < c.length := by omega
      have ho := opOk_iff.1 (hB.op (o.getD k sp0) (by rw [List.getD_eq_getElem?_getD, List.getElem?_eq_getElem hk']; exact List.getElem_mem hk'))
      have hs := sval_true (allV_mem hv (s := c.getD k sp0) (by rw [List.getD_eq_getElem?_getD, List.getElem?_eq_getElem hk2]; exact List.getElem_mem hk2))
      rcases List.mem_append.1 he with he | he
      · exact ih (by omega) e he
      · simp only [List.mem_cons, List.not_mem_nil, or_false] at he
        rcases he with rfl | rfl <;> constructor <;> dsimp only <;> omega
  intro e he
  rcases List.mem_append.1 he with he | he
  · obtain ⟨t, ht, rfl⟩ := List.mem_map.1 he
    obtain ⟨a1, a2, a3, a4, _, a5⟩ := trE_iff.1 (hB.tr t ht)
    have := opOk_iff.1 a5
    constructor <;> dsimp only [trEd] <;> omega
  · exact h1 n (Nat.le_refl _) e he
theorem arcs_len {n : Nat} {o : List Sp} {l : List Tr} {c : List Sp} (hB : BOk n o l) : (arcsL n o l c).length ≤ 96 := by
  have := hB.n8
  have := hB.few
  simp only [arcsL, List.length_append, List.length_map, pairEds_len]
  omega

set_option maxRecDepth 100000 in
set_option maxHeartbeats 8000000 in
theorem rarcs_any {w : World} {vo vl vc : Value} {n : Nat} {o : List Sp} {l : List Tr} {c : List Sp} (ho : RowIn w vo 2 encP o) (hl : RowIn w vl 4 encR l) (hc : RowIn w vc 2 encP c) (hB : BOk n o l) (hcl : c.length = n) :
    Calls Try.prog 27 #[.int .i64 (n : Int), vo, vl, vc] w (arOut w (arcsL n o l c)) := by
  obtain ⟨ti, hi, hz, hsi, hby⟩ := info_of (P := Try.prog) (t := 63) (z := .agg #[.int .i64 0, .int .i64 0, .int .i64 0, .int .i64 0]) (size := 4) (bytes := 32) (by kernel_rfl)
  obtain ⟨la, cb, rfl, _, _, _, hl5⟩ := hl.at_
  obtain ⟨oa, ca, rfl, _, _, _, ho5⟩ := ho.at_
  obtain ⟨qa, cq, rfl, _, _, _, hq5⟩ := hc.at_
  have HL := Lib.hid hl5
  have HO := Lib.hid ho5
  have HQ := Lib.hid hq5
  clear hl5 ho5 hq5
  have hn8 := hB.n8
  have hfew := hB.few
  have hon : o.length = n := by have := hB.len; omega
  have HB := Lib.hid hB
  clear hB
  rw [hon, hcl]
  have HON := Lib.hid hon
  have HCL := Lib.hid hcl
  clear hon hcl ho hl hc
  have hb1 : Below w.heap.size w (w.alloc (.cells #[] 63)) := by repeat (first | (with_reducible exact Below.refl _ _) | (with_reducible assumption) | (with_reducible refine Below.drew ?_) | ((with_reducible refine Below.alloc ?_ ?_ _); rotate_left; (first | (with_reducible exact Nat.zero_le _) | (with_reducible exact Nat.le_refl _) | omega | (dsimp only; omega) | (simp only [World.size_alloc, World.size_setCell, World.size_drew]; omega))) | ((with_reducible refine Below.setCell ?_ ?_ _); rotate_left; (first | (with_reducible exact Nat.zero_le _) | (with_reducible exact Nat.le_refl _) | omega | (dsimp only; omega) | (simp only [World.size_alloc, World.size_setCell, World.size_drew]; omega))))
  have own1 : (w.alloc (.cells #[] 63)).ownsRow w.heap.size 63 4 (.slice (some ⟨w.heap.size, 0, none⟩) 0 0) (((l.take 0).map trEd).length) (rowOf encA ((l.take 0).map trEd)) := own0A (Blk.new w 63 #[]) (Nat.le_refl _)
  go_enter Try.func27, Try.ntmps27
  go_wp2_with fail
  go_loopw [9, 10] (fun v i wr => ArRel w (fun j => (l.take j).map trEd) l.length v i wr) (fun _ i _ => (l.length - intOf i).toNat)
  case atStart => exact ⟨0, Nat.zero_le _, rfl, hb1, own1⟩
  case round =>
    clear hb1 own1
    obtain ⟨j, hj, rfl, hb, own⟩ := hrel
    dsimp only at own
    have hsz := hb.size
    by_cases hjt : j < l.length
    · have hjl : (j : Int) < l.length := by omega
      have hj0 : (0 : Int) ≤ j := by omega
      obtain ⟨lb, lo, hlo, hlz, hlc⟩ := HL.out (by rintro rfl; simp at hjt)
      subst hlo
      obtain ⟨x, hx⟩ : ∃ x, l[j]? = some x := ⟨_, List.getElem?_eq_getElem hjt⟩
      have htr := trE_iff.1 (HB.out.tr x (List.mem_of_getElem? hx))
      have hst : (l.take (j + 1)).map trEd = (l.take j).map trEd ++ [trEd x] := by rw [List.take_add_one, hx]; simp
      obtain ⟨xf, xt, m⟩ := x
      obtain ⟨t1, t2, t3, t4, t5, t6⟩ := htr
      dsimp only at t1 t2 t3 t4 t5 t6
      obtain ⟨q, rfl⟩ : ∃ q : Nat, xf = q := ⟨xf.toNat, by omega⟩
      obtain ⟨p, rfl⟩ : ∃ p : Nat, xt = p := ⟨xt.toNat, by omega⟩
      have htE : trEd ⟨(q : Int), (p : Int), m⟩ = ⟨q, p, m.lo, m.hi⟩ := by simp [trEd]
      rw [htE] at hst
      have e0 : World.cell? wr ⟨lb, lo + j * 4, none⟩ = some (.int .i64 q) := (hb.cell (p := ⟨lb, lo + j * 4, none⟩) hlz).trans (hlc j _ hx 0 (by omega))
      have e1 : World.cell? wr ⟨lb, lo + j * 4 + 1, none⟩ = some (.int .i64 p) := (hb.cell (p := ⟨lb, lo + j * 4 + 1, none⟩) hlz).trans (hlc j _ hx 1 (by omega))
      have e2 : World.cell? wr ⟨lb, lo + j * 4 + 2, none⟩ = some (.int .i64 m.lo) := (hb.cell (p := ⟨lb, lo + j * 4 + 2, none⟩) hlz).trans (hlc j _ hx 2 (by omega))
      have e3 : World.cell? wr ⟨lb, lo + j * 4 + 3, none⟩ = some (.int .i64 m.hi) := (hb.cell (p := ⟨lb, lo + j * 4 + 3, none⟩) hlz).trans (hlc j _ hx 3 (by omega))
      have hl9 : ((l.take j).map trEd).length ≤ 64 := by simp; omega
      have HST := Lib.hid hst
      clear hst hx hlc t1 t2 t3 t4 t5 t6 htE
      generalize (l.take j).map trEd = M at *
      have BN := Blk.new wr.drew 63 #[.int .i64 (q : Nat), .int .i64 (p : Nat), .int .i64 m.lo, .int .i64 m.hi]
      have hbx := hb.drew.alloc (B := w.heap.size) hsz (.cells #[.int .i64 (q : Nat), .int .i64 (p : Nat), .int .i64 m.lo, .int .i64 m.hi] 63)
      have hbw := (Below.refl wr.heap.size wr).drew.alloc (Nat.le_refl _) (.cells #[.int .i64 (q : Nat), .int .i64 (p : Nat), .int .i64 m.lo, .int .i64 m.hi] 63)
      have hA1 : M.length + 1 ≤ maxLen := by simp only [maxLen]; omega
      have hA2 : (M.length + 1) * 32 ≤ 140737488355328 := by omega
      have hA3 : w.heap.size ≤ ((wr.drew).alloc (.cells #[.int .i64 (q : Nat), .int .i64 (p : Nat), .int .i64 m.lo, .int .i64 m.hi] 63)).heap.size := by simp only [World.size_alloc, World.size_drew]; omega
      have ownx := ownsRow_step own hbw
      go_wp2_with fail
      go_region_law ((refine step_append_any _ (by rfl) _ _ _ (by rfl) w.heap.size 63 ti _ 4 32 Try.underlying49 hi hz hsi hby (by rfl) (by omega) _ M.length _ (by rfl) ownx _ 1 (encA ⟨q, p, m.lo, m.hi⟩) (by rfl) (Src.of_blk BN 1) (by rfl) (fun u hu => oneA [⟨q, p, m.lo, m.hi⟩] u (by simpa [rowOf] using hu)) hA1 hA2 hA3 ?_; intro v5 w5 own5 hg5 hat5))
      all_goals (
        have hb5 : Below w.heap.size w w5 := Below.grown hbx hg5 hA3 (fun jj hj => by
          rcases ownsRow_open own with ⟨rfl, _⟩ | ⟨gg, cc, uu, rfl, hgg, _⟩
          · cases hj
          · have hj' := Option.some.inj hj; dsimp only at hj'; omega)
        have own7 : w5.ownsRow w.heap.size 63 4 v5 ((l.take (j + 1)).map trEd).length (rowOf encA ((l.take (j + 1)).map trEd)) := by
          rw [HST.out, rowOf_append, List.length_append]
          simpa [rowOf] using own5
        clear e0 e1 e2 e3 own5 own ownx hg5 hbx hbw BN
        go_wp2_with fail
        go_roundw
        case rel => exact ⟨j + 1, hjt, by simp, hb5, own7⟩
        case measure => simp [intOf]; omega)
    · obtain rfl : j = l.length := by omega
      have own9 : wr.ownsRow w.heap.size 63 4 u9 (l.map trEd ++ pairEds n o c 0).length (rowOf encA (l.map trEd ++ pairEds n o c 0)) := by simpa [pairEds] using own
      go_wp2_with fail
      go_loopw [9, 11] (fun v i wr => ArRel w (fun j => l.map trEd ++ pairEds n o c j) n v i wr) (fun _ i _ => (n - intOf i).toNat)
      case atStart => exact ⟨0, Nat.zero_le _, rfl, hb, own9⟩
      case round =>
        clear hb own own9 hsz
        obtain ⟨k, hk, rfl, hb, own⟩ := hrel
        dsimp only at own
        have hsz := hb.size
        by_cases hlt : k < n
        · have hkl : (k : Int) < n := by omega
          have hk0 : (0 : Int) ≤ k := by omega
          obtain ⟨ob, oo, hoo, hoz, hoc⟩ := HO.out (by rintro rfl; have := HON.out; simp at this; omega)
          obtain ⟨qb, qo, hqo, hqz, hqc⟩ := HQ.out (by rintro rfl; have := HCL.out; simp at this; omega)
          subst hoo hqo
          have hx : o[k]? = some (o.getD k sp0) := getD_of (by have := HON.out; omega)
          have hy : c[k]? = some (c.getD k sp0) := getD_of (by have := HCL.out; omega)
          have e0 : World.cell? wr ⟨ob, oo + k * 2, none⟩ = some (.int .i64 (o.getD k sp0).lo) := (hb.cell (p := ⟨ob, oo + k * 2, none⟩) hoz).trans (hoc k _ hx 0 (by omega))
          have e1 : World.cell? wr ⟨ob, oo + k * 2 + 1, none⟩ = some (.int .i64 (o.getD k sp0).hi) := (hb.cell (p := ⟨ob, oo + k * 2 + 1, none⟩) hoz).trans (hoc k _ hx 1 (by omega))
          have f0 : World.cell? w ⟨qb, qo + k * 2, none⟩ = some (.int .i64 (c.getD k sp0).lo) := hqc k _ hy 0 (by omega)
          have f1 : World.cell? w ⟨qb, qo + k * 2 + 1, none⟩ = some (.int .i64 (c.getD k sp0).hi) := hqc k _ hy 1 (by omega)
          have hll : (l.map trEd ++ pairEds n o c k).length ≤ 80 := by simp [pairEds_len]; omega
          have hst : l.map trEd ++ pairEds n o c (k + 1) = (l.map trEd ++ pairEds n o c k) ++ [⟨n, k, (o.getD k sp0).lo, (o.getD k sp0).hi⟩] ++ [⟨k, n, (c.getD k sp0).lo, (c.getD k sp0).hi⟩] := by simp [pairEds]
          have HST := Lib.hid hst
          clear hst hoc hx hqc hy
          generalize o.getD k sp0 = s0 at *
          generalize c.getD k sp0 = t0 at *
          generalize l.map trEd ++ pairEds n o c k = M at *
          have hbx := hb.alloc hsz (.cells #[.int .i64 (n : Nat), .int .i64 (k : Nat), .int .i64 s0.lo, .int .i64 s0.hi] 63)
          have hbw := Below.alloc (Below.refl wr.heap.size wr) (Nat.le_refl _) (.cells #[.int .i64 (n : Nat), .int .i64 (k : Nat), .int .i64 s0.lo, .int .i64 s0.hi] 63)
          have BE := Blk.new wr 63 #[.int .i64 (n : Nat), .int .i64 (k : Nat), .int .i64 s0.lo, .int .i64 s0.hi]
          have hr0 : ∀ jj, Value.ownBlock u9 = some jj → w.heap.size ≤ jj := fun jj hj => by
            rcases ownsRow_open own with ⟨rfl, _⟩ | ⟨gg, cc, uu, rfl, hgg, _⟩
            · cases hj
            · have hj' := Option.some.inj hj; dsimp only at hj'; omega
          go_wp2_with (first | ((at_builtin; refine wpList_append_any _ rfl _ _ _ rfl w.heap.size 63 ti _ 4 32 Try.underlying49 hi hz hsi hby rfl (by omega) _ M.length _ rfl (ownsRow_step own hbw) _ 1 (encA ⟨n, k, s0.lo, s0.hi⟩) rfl (Src.of_blk BE 1) rfl (fun u hu => oneA [⟨n, k, s0.lo, s0.hi⟩] u (by simpa [rowOf] using hu)) (by simp only [maxLen]; omega) (by omega) (by first | omega | (simp only [World.size_alloc, World.size_drew] <;> omega)) ?_; intro v5 w5 own5 hg5 hat5); have hb5 : Below w.heap.size w w5 := Below.grown hbx hg5 (by first | omega | (simp only [World.size_alloc]; omega)) hr0; have hs5 := hb5.size; have g0 := (hb5.cell (p := ⟨qb, qo + k * 2, none⟩) hqz).trans f0; have g1 := (hb5.cell (p := ⟨qb, qo + k * 2 + 1, none⟩) hqz).trans f1; have hb5x := hb5.alloc hs5 (.cells #[.int .i64 (k : Nat), .int .i64 (n : Nat), .int .i64 t0.lo, .int .i64 t0.hi] 63); have hb5w := Below.alloc (Below.refl w5.heap.size w5) (Nat.le_refl _) (.cells #[.int .i64 (k : Nat), .int .i64 (n : Nat), .int .i64 t0.lo, .int .i64 t0.hi] 63); have BE5 := Blk.new w5 63 #[.int .i64 (k : Nat), .int .i64 (n : Nat), .int .i64 t0.lo, .int .i64 t0.hi]) | ((at_builtin; refine wpList_append_any _ rfl _ _ _ rfl w.heap.size 63 ti _ 4 32 Try.underlying49 hi hz hsi hby rfl (by omega) _ (M.length + 1) _ rfl (ownsRow_step own5 hb5w) _ 1 (encA ⟨k, n, t0.lo, t0.hi⟩) rfl (Src.of_blk BE5 1) rfl (fun u hu => oneA [⟨k, n, t0.lo, t0.hi⟩] u (by simpa [rowOf] using hu)) (by simp only [maxLen]; omega) (by omega) (by first | omega | (simp only [World.size_alloc, World.size_drew] <;> omega)) ?_; intro v6 w6 own6 hg6 hat6)))
          have hr5 : ∀ jj, v5.ownBlock = some jj → w.heap.size ≤ jj := fun jj hj => by
            rcases ownsRow_open own5 with ⟨rfl, _⟩ | ⟨gg, cc, uu, rfl, hgg, _⟩
            · cases hj
            · have hj' := Option.some.inj hj; dsimp only at hj'; omega
          have hb6 : Below w.heap.size w w6 := Below.grown hb5x hg6 (by first | omega | (simp only [World.size_alloc]; omega)) hr5
          have own7 : w6.ownsRow w.heap.size 63 4 v6 (l.map trEd ++ pairEds n o c (k + 1)).length (rowOf encA (l.map trEd ++ pairEds n o c (k + 1))) := by
            rw [HST.out, rowOf_append, rowOf_append]
            simpa [rowOf, Nat.add_assoc, List.append_assoc] using own6
          clear own own5 own6 hg5 hg6 hbx hbw BE hb5x hb5w BE5 f0 f1 g0 g1 e0 e1 hr5 hr0
          go_roundw
          case rel => exact ⟨k + 1, hlt, by simp, hb6, own7⟩
          case measure => simp [intOf]; omega
        · obtain rfl : n = k := by omega
          go_wp2_with fail
          go_ret
          exact ⟨_, rfl, RowIn.of_own encA_len own, hb⟩

end Go.Proofs.Ythaoclocachbaaa
