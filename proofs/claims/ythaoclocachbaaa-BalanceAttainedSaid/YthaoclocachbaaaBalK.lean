/- Contract: Holds of the program. -/
import Derived.Test.YthaoclocachbaaaBalI
import Derived.Deep.OwnRows
namespace Go.Proofs.Ythaoclocachbaaa
set_option linter.unusedVariables false
set_option linter.unusedSimpArgs false
open Go.RowKit

def rowO (N : Nat) (ms : List Int) (k : Nat) : List Int := (List.range N).map fun i => if i < k then ms.getD i 0 else 0
def rowM (N : Nat) (l : List Tr) (ms : List Int) (k : Nat) : List Int := (List.range N).map fun i => nodeM N l ms i k
theorem rowO_len (N : Nat) (ms : List Int) (k : Nat) : (rowO N ms k).length = N := by simp [rowO]
theorem rowM_len (N : Nat) (l : List Tr) (ms : List Int) (k : Nat) : (rowM N l ms k).length = N := by simp [rowM]
theorem rowO_zero (N : Nat) (ms : List Int) : rowO N ms 0 = List.replicate N 0 := by
  refine List.ext_getElem (by simp [rowO]) fun i h1 h2 => by simp [rowO]
theorem rowO_full (N : Nat) (l : List Tr) (ms : List Int) : rowO N ms N = rowM N l ms 0 := by
  refine List.ext_getElem (by simp [rowO, rowM]) fun i h1 h2 => ?_
  have : i < N := by simpa [rowO] using h1
  simp [rowO, rowM, nodeM, this]
theorem rowO_get {N k : Nat} (ms : List Int) (h : k < N) : (rowO N ms k)[k]? = some 0 := by simp [rowO, h]
theorem rowO_set {N k : Nat} (ms : List Int) (h : k < N) : (rowO N ms k).set k (ms.getD k 0) = rowO N ms (k + 1) := by
  refine List.ext_getElem (by simp [rowO]) fun i h1 h2 => ?_
  simp only [List.getElem_set, rowO, List.getElem_map, List.getElem_range]
  by_cases e : k = i
  · rw [if_pos e, if_pos (by omega), e]
  · rw [if_neg e]
    by_cases e2 : i < k
    · rw [if_pos e2, if_pos (by omega)]
    · rw [if_neg e2, if_neg (by omega)]
theorem rowM_get {N i : Nat} (l : List Tr) (ms : List Int) (k : Nat) (h : i < N) : (rowM N l ms k)[i]? = some (nodeM N l ms i k) := by simp [rowM, h]
theorem rowM_set {N k p q : Nat} {l : List Tr} {ms : List Int} {m : Sp} (h : l[k]? = some ⟨q, p, m⟩) (hpq : p ≠ q) :
    ((rowM N l ms k).set q (nodeM N l ms q k - ms.getD (N + k) 0)).set p (nodeM N l ms p k + ms.getD (N + k) 0) = rowM N l ms (k + 1) := by
  have hg : l.getD k tr0 = ⟨q, p, m⟩ := by rw [List.getD_eq_getElem?_getD, h]; rfl
  refine List.ext_getElem (by simp [rowM]) fun i h1 h2 => ?_
  simp only [List.getElem_set, rowM, List.getElem_map, List.getElem_range, nodeM, hg, mstep]
  by_cases e1 : p = i
  · rw [if_pos e1, if_pos (by omega), if_neg (by omega), e1]
  · rw [if_neg e1]
    by_cases e2 : q = i
    · rw [if_pos e2, if_neg (by omega), if_pos (by omega), e2]
    · rw [if_neg e2, if_neg (by omega), if_neg (by omega)]
theorem nodeM_bd {N : Nat} (l : List Tr) {ms : List Int} {i : Nat} (h0 : 0 ≤ ms.getD i 0 ∧ ms.getD i 0 ≤ 70368744177664) : ∀ k : Nat, (∀ j, j < k → 0 ≤ ms.getD (N + j) 0 ∧ ms.getD (N + j) 0 ≤ 70368744177664) →
    -(70368744177664 * k) ≤ nodeM N l ms i k ∧ nodeM N l ms i k ≤ 70368744177664 * (k + 1)
  | 0, _ => by simp only [nodeM]; omega
  | k + 1, h => by
    have ih := nodeM_bd l h0 k fun j hj => h j (by omega)
    have hk := h k (by omega)
    simp only [nodeM, mstep]
    generalize ms.getD (N + k) 0 = m at *
    (repeat' split) <;> omega
theorem holdsB_on {n : Int} {o : List Sp} {l : List Tr} {c : List Sp} {ms : List Int} (h : bchkA n o l c = 0) (hl : (ms.length : Int) = n + l.length) :
    holdsB n o l c ms = (openIn o ms o.length && (movesIn o.length l ms l.length && closeIn o.length l c ms o.length)) := by
  unfold holdsB; rw [decide_eq_true h, decide_eq_true hl]; rfl
theorem open_at {o : List Sp} {ms : List Int} {k : Nat} (h : openIn o ms k = true) {i : Nat} (hi : i < k) : hasV (o.getD i sp0) (ms.getD i 0) = true := List.all_eq_true.1 h i (List.mem_range.2 hi)
theorem move_at {N : Nat} {l : List Tr} {ms : List Int} {k : Nat} (h : movesIn N l ms k = true) {i : Nat} (hi : i < k) : hasV (l.getD i tr0).mass (ms.getD (N + i) 0) = true := List.all_eq_true.1 h i (List.mem_range.2 hi)
theorem open_bd {n : Int} {o : List Sp} {l : List Tr} {ms : List Int} (hB : BOk n o l) (h : openIn o ms o.length = true) {i : Nat} (hi : i < o.length) : 0 ≤ ms.getD i 0 ∧ ms.getD i 0 ≤ 70368744177664 := by
  have h1 := hasV_iff.1 (open_at h hi)
  have h2 := opOk_iff.1 (hB.op (o.getD i sp0) (by rw [List.getD_eq_getElem?_getD, List.getElem?_eq_getElem hi]; exact List.getElem_mem hi))
  omega
theorem move_bd {n : Int} {o : List Sp} {l : List Tr} {ms : List Int} {N : Nat} (hB : BOk n o l) {k : Nat} (hk : k ≤ l.length) (h : movesIn N l ms k = true) {i : Nat} (hi : i < k) : 0 ≤ ms.getD (N + i) 0 ∧ ms.getD (N + i) 0 ≤ 70368744177664 := by
  have h1 := hasV_iff.1 (move_at h hi)
  have hl : i < l.length := by omega
  have h2 := opOk_iff.1 (trE_iff.1 (hB.tr (l.getD i tr0) (by rw [List.getD_eq_getElem?_getD, List.getElem?_eq_getElem hl]; exact List.getElem_mem hl))).2.2.2.2.2
  omega
theorem getD_i {l : List Int} {i : Nat} (h : i < l.length) : l[i]? = some (l.getD i 0) := by rw [List.getD_eq_getElem?_getD, List.getElem?_eq_getElem h]; rfl
theorem getD_t {l : List Tr} {i : Nat} (h : i < l.length) : l[i]? = some (l.getD i tr0) := by rw [List.getD_eq_getElem?_getD, List.getElem?_eq_getElem h]; rfl
theorem getD_s {l : List Sp} {i : Nat} (h : i < l.length) : l[i]? = some (l.getD i sp0) := by rw [List.getD_eq_getElem?_getD, List.getElem?_eq_getElem h]; rfl

def HoRel (w : World) (g N : Nat) (o : List Sp) (ms : List Int) (i : Value) (wr : World) : Prop := ∃ k : Nat, k ≤ N ∧ i = .int .i64 k ∧ openIn o ms k = true ∧ Below w.heap.size w wr ∧ Blk wr g 3 (ints (rowO N ms k))
def HmRel (w : World) (g N : Nat) (l : List Tr) (ms : List Int) (i : Value) (wr : World) : Prop := ∃ k : Nat, k ≤ l.length ∧ i = .int .i64 k ∧ movesIn N l ms k = true ∧ Below w.heap.size w wr ∧ Blk wr g 3 (ints (rowM N l ms k))
def HcRel (w : World) (g N : Nat) (l : List Tr) (c : List Sp) (ms : List Int) (i : Value) (wr : World) : Prop := ∃ k : Nat, k ≤ N ∧ i = .int .i64 k ∧ closeIn N l c ms k = true ∧ Below w.heap.size w wr ∧ Blk wr g 3 (ints (rowM N l ms l.length))

set_option maxRecDepth 100000 in
set_option maxHeartbeats 8000000 in
theorem holds_any {w : World} {vo vl vc vm : Value} (n : Int) {o : List Sp} {l : List Tr} {c : List Sp} {ms : List Int} (ho : RowIn w vo 2 encP o) (hl : RowIn w vl 4 encR l) (hc : RowIn w vc 2 encP c) (hm : RowIn w vm 1 (fun x : Int => [.int .i64 x]) ms) :
    Calls Try.prog 22 #[.int .i64 n, vo, vl, vc, vm] w fun e w' => e = .returned (.bool (holdsB n o l c ms)) ∧ Below w.heap.size w w' := by
  have hck := fun w ho hl hc => bcheckA_any (w := w) (vo := vo) (vl := vl) (vc := vc) n (o := o) (l := l) (c := c) ho hl hc
  by_cases h0 : bchkA n o l c = 0
  · obtain ⟨hA0, hcl, hcv⟩ := bchkA_ok h0
    have hB := bchk_ok hA0
    have hn1 := hB.n1
    have hn8 := hB.n8
    have hlen := hB.len
    have hfew := hB.few
    have hon := fun h => holdsB_on (ms := ms) h0 h
    have HOF : (ms.length : Int) ≠ n + l.length → holdsB n o l c ms = false := fun h => by unfold holdsB; rw [decide_eq_false h]; simp
    rw [h0] at hck
    have HB := Lib.hid hB
    have HON := Lib.hid hon
    have HF := Lib.hid HOF
    clear hon HOF h0 hA0 hB hcv
    obtain ⟨la, cb, rfl, l1, l2, _, hl5⟩ := id hl.at_
    obtain ⟨oa, ca, rfl, o1, o2, _, ho5⟩ := id ho.at_
    obtain ⟨qa, cq, rfl, q1, q2, _, hq5⟩ := id hc.at_
    obtain ⟨ma, cm, rfl, m1, m2, _, hm5⟩ := id hm.at_
    unfold maxLen at l2 o2 q2 m2
    have HL := Lib.hid hl5
    have HO := Lib.hid ho5
    have HQ := Lib.hid hq5
    have HM := Lib.hid hm5
    clear hl5 ho5 hq5 hm5
    obtain ⟨N, hN⟩ : ∃ N : Nat, o.length = N := ⟨_, rfl⟩
    rw [hN] at hlen
    subst hlen
    have hcl' : c.length = N := by omega
    by_cases hml : (ms.length : Int) = N + l.length
    · have hml' : ms.length = N + l.length := by omega
      have hon := HON.out hml
      rw [hN] at hon
      clear HON HF hml
      have HON := Lib.hid hon
      clear hon
      have hn8' : N ≤ 8 := by omega
      rw [hN] at ho
      rw [hcl'] at hc
      rw [hml'] at hm
      rw [hN, hcl', hml']
      simp only [hN, hcl'] at hck
      have HN := Lib.hid hN
      have HCL := Lib.hid hcl'
      have HML := Lib.hid hml'
      clear l1 l2 o1 o2 q1 q2 m1 m2 hN hcl hcl' hml'
      obtain ⟨ti, hi, hz, hsi, hby⟩ := info_of (P := Try.prog) (t := 3) (z := .int .i64 0) (size := 1) (bytes := 8) (by kernel_rfl)
      go_enter Try.func22, Try.ntmps22
      go_wp2_with fail
      refine (hck _ ho hl hc).mono ?_
      rintro e w1 ⟨rfl, hb1⟩
      have hs1 := hb1.size
      have hb2 := hb1.alloc hs1 (.cells (madeCells #[.int .i64 0] N) 3)
      have BS : Blk (w1.alloc (.cells (madeCells #[.int .i64 0] N) 3)) w1.heap.size 3 (ints (rowO N ms 0)) := by
        have := Blk.new w1 3 (madeCells #[.int .i64 0] N)
        rw [ints_made] at this ⊢
        rw [rowO_zero]; exact this
      clear ho hl hc hm
      go_wp2_with (at_make; go_loud (refine wpList_make_row _ rfl _ _ 29 rfl 3 ti (.int .i64 0) Try.underlying29 hi hz hsi (by rfl) .i64 .i64 N rfl rfl (by rw [hby]; omega) (by omega) ?_))
      have hgw : w.heap.size ≤ w1.heap.size := hs1
      generalize hg : w1.heap.size = g at *
      go_loopw [38] (fun i wr => HoRel w g N o ms i wr) (fun i _ => (N - intOf i).toNat)
      case atStart => exact ⟨0, Nat.zero_le _, rfl, rfl, hb2, BS⟩
      case round =>
        clear hb2 BS hb1 hg
        obtain ⟨k, hk, rfl, hok, hb, BS⟩ := hrel
        have hsz := hb.size
        by_cases hlt : k < N
        · have hx : o[k]? = some (o.getD k sp0) := getD_s (by rw [HN.out]; exact hlt)
          have hmx : ms[k]? = some (ms.getD k 0) := getD_i (by rw [HML.out]; omega)
          have hst := rowO_set ms hlt
          have hgt := rowO_get ms hlt
          have hop := all_succ (fun i => hasV (o.getD i sp0) (ms.getD i 0)) k
          have hno := all_stop (f := fun i => hasV (o.getD i sp0) (ms.getD i 0)) hlt
          change openIn o ms (k + 1) = (openIn o ms k && hasV (o.getD k sp0) (ms.getD k 0)) at hop
          change hasV (o.getD k sp0) (ms.getD k 0) = false → openIn o ms N = false at hno
          rw [hok, Bool.true_and] at hop
          obtain ⟨ob, oo, hoo, hoz, hoc⟩ := HO.out (by rintro rfl; simp at hx)
          obtain ⟨mb, mo, hmo, hmz, hmc⟩ := HM.out (by rintro rfl; simp at hmx)
          subst hoo hmo
          have hkl : (k : Int) < N := by omega
          have hk0 : (0 : Int) ≤ k := by omega
          have hkm : (k : Int) < ((N + l.length : Nat) : Int) := by omega
          have e0 : World.cell? wr ⟨ob, oo + k * 2, none⟩ = some (.int .i64 (o.getD k sp0).lo) := (hb.cell (p := ⟨ob, oo + k * 2, none⟩) hoz).trans (hoc k _ hx 0 (by omega))
          have e1 : World.cell? wr ⟨ob, oo + k * 2 + 1, none⟩ = some (.int .i64 (o.getD k sp0).hi) := (hb.cell (p := ⟨ob, oo + k * 2 + 1, none⟩) hoz).trans (hoc k _ hx 1 (by omega))
          have em : World.cell? w ⟨mb, mo + k, none⟩ = some (.int .i64 (ms.getD k 0)) := by simpa using hmc k _ hmx 0 (by omega)
          have hv := fun w => has_any (o.getD k sp0) (ms.getD k 0) w
          generalize o.getD k sp0 = x at *
          generalize ms.getD k 0 = m at *
          clear hoc hmc hx hmx
          have HST := Lib.hid hst
          have HGT := Lib.hid hgt
          have HOP := Lib.hid hop
          have HNO := Lib.hid hno
          clear hst hgt hop hno hok
          have BX := Blk.new wr 41 (#[.int .i64 (x).lo, .int .i64 (x).hi])
          go_wp2_with fail
          replace BS := BS.alloc (.cells (#[.int .i64 (x).lo, .int .i64 (x).hi]) 41)
          replace hb := hb.alloc hsz (.cells (#[.int .i64 (x).lo, .int .i64 (x).hi]) 41)
          clear e0 e1
          have em2 := (hb.cell (p := ⟨mb, mo + k, none⟩) hmz).trans em
          have hmlt := Nat.lt_of_lt_of_le hmz hb.size
          have lx := BX.lt
          generalize wr.alloc (.cells (#[.int .i64 (x).lo, .int .i64 (x).hi]) 41) = w2 at *
          generalize wr.heap.size = gx at *
          have c2 : ∀ y : BW w2, ∀ j, y.w.cell? ⟨gx, j, none⟩ = (#[.int .i64 (x).lo, .int .i64 (x).hi])[j]? := fun y => (BX.bw y).cell
          have c3 : ∀ y : BW w2, y.w.cell? ⟨mb, mo + k, none⟩ = some (.int .i64 m) := fun y => (y.cell hmlt).trans em2
          cases hhv : hasV x m with
          | false =>
            rw [hhv] at hv
            have HF := Lib.hid (HNO.out hhv)
            clear hhv
            refine wp_region_calm (by kernel_rfl) (by kernel_rfl) ?_
            repeat (go_big_quiet_step (fail))
            go_big_quiet_want; go_big_quiet_op; go_big_quiet_call (exact calls_bw (fun w => hv w) _)
            repeat (go_big_quiet_step (fail))
            first | refine wpQuiet_nil ?_ | skip
            intro w5 hb5
            go_wp2_with fail
            go_ret
            exact ⟨by rw [HON.out, HF.out]; rfl, hb.trans (hb5.mono hb.size)⟩
          | true =>
            rw [hhv] at hv
            have HS := Lib.hid (HOP.out.trans hhv)
            clear hhv
            refine wp_region_calm (by kernel_rfl) (by kernel_rfl) ?_
            repeat (go_big_quiet_step (fail))
            go_big_quiet_want; go_big_quiet_op; go_big_quiet_call (exact calls_bw (fun w => hv w) _)
            repeat (go_big_quiet_step (fail))
            first | refine wpQuiet_nil ?_ | skip
            intro w5 hb5
            clear c2 c3 lx em2 hmlt
            replace BS := BS.step hb5
            replace hb := hb.trans (hb5.mono hb.size)
            have em2 := (hb.cell (p := ⟨mb, mo + k, none⟩) hmz).trans em
            have cg : World.cell? w5 ⟨g, k, none⟩ = some (.int .i64 0) := BS.geti HGT.out
            have fg := BS.free k
            have lg := BS.lt
            go_wp2_with fail
            replace BS := BS.seti k m
            rw [HST.out] at BS
            go_roundw
            case rel => exact ⟨k + 1, hlt, by simp, HS.out, hb.setCell (p := ⟨g, k, none⟩) hgw _, BS⟩
            case measure => simp [intOf]; omega
        · obtain rfl : N = k := by omega
          have HOB := Lib.hid fun i (hi : i < N) => open_bd HB.out (by rw [HN.out]; exact hok) (i := i) (by rw [HN.out]; exact hi)
          have HOK := Lib.hid hok
          rw [rowO_full N l ms] at BS
          clear hok hlt hk
          go_wp2_with fail
          go_loopw [60] (fun i wr => HmRel w g N l ms i wr) (fun i _ => (l.length - intOf i).toNat)
          case atStart => exact ⟨0, Nat.zero_le _, rfl, rfl, hb, BS⟩
          case round =>
            clear hb BS hsz
            obtain ⟨k, hk, rfl, hok, hb, BS⟩ := hrel
            have hsz := hb.size
            by_cases hlt : k < l.length
            · have hx : l[k]? = some (l.getD k tr0) := getD_t hlt
              have hmx : ms[N + k]? = some (ms.getD (N + k) 0) := getD_i (by rw [HML.out]; omega)
              have htr := trE_iff.1 (HB.out.tr _ (List.mem_of_getElem? hx))
              have hop := all_succ (fun i => hasV (l.getD i tr0).mass (ms.getD (N + i) 0)) k
              have hno := all_stop (f := fun i => hasV (l.getD i tr0).mass (ms.getD (N + i) 0)) hlt
              change movesIn N l ms (k + 1) = (movesIn N l ms k && hasV (l.getD k tr0).mass (ms.getD (N + k) 0)) at hop
              change hasV (l.getD k tr0).mass (ms.getD (N + k) 0) = false → movesIn N l ms l.length = false at hno
              rw [hok, Bool.true_and] at hop
              have hbA := fun i hi => nodeM_bd l (HOB.out i hi) k (fun j hj => move_bd HB.out hk hok hj)
              obtain ⟨lb, lo, hlo, hlz, hlc⟩ := HL.out (by rintro rfl; simp at hx)
              obtain ⟨mb, mo, hmo, hmz, hmc⟩ := HM.out (by rintro rfl; simp at hmx)
              subst hlo hmo
              have em : World.cell? w ⟨mb, mo + (N + k), none⟩ = some (.int .i64 (ms.getD (N + k) 0)) := by simpa using hmc (N + k) _ hmx 0 (by omega)
              generalize l.getD k tr0 = x at *
              obtain ⟨xf, xt, s⟩ := x
              obtain ⟨t1, t2, t3, t4, t5, t6⟩ := htr
              dsimp only at t1 t2 t3 t4 t5 t6 hop hno
              obtain ⟨q, rfl⟩ : ∃ q : Nat, xf = q := ⟨xf.toNat, by omega⟩
              obtain ⟨p, rfl⟩ : ∃ p : Nat, xt = p := ⟨xt.toNat, by omega⟩
              have hq : q < N := by omega
              have hp : p < N := by omega
              have hpq : p ≠ q := by omega
              have hst := rowM_set (N := N) (ms := ms) hx hpq
              have gq := rowM_get l ms k hq
              have gp := rowM_get l ms k hp
              obtain ⟨a1, a2⟩ := hbA q hq
              obtain ⟨b1, b2⟩ := hbA p hp
              clear hbA
              obtain ⟨m1, m2, m3⟩ := opOk_iff.1 t6
              have e0 : World.cell? wr ⟨lb, lo + k * 4, none⟩ = some (.int .i64 q) := (hb.cell (p := ⟨lb, lo + k * 4, none⟩) hlz).trans (hlc k _ hx 0 (by omega))
              have e1 : World.cell? wr ⟨lb, lo + k * 4 + 1, none⟩ = some (.int .i64 p) := (hb.cell (p := ⟨lb, lo + k * 4 + 1, none⟩) hlz).trans (hlc k _ hx 1 (by omega))
              have e2 : World.cell? wr ⟨lb, lo + k * 4 + 2, none⟩ = some (.int .i64 s.lo) := (hb.cell (p := ⟨lb, lo + k * 4 + 2, none⟩) hlz).trans (hlc k _ hx 2 (by omega))
              have e3 : World.cell? wr ⟨lb, lo + k * 4 + 3, none⟩ = some (.int .i64 s.hi) := (hb.cell (p := ⟨lb, lo + k * 4 + 3, none⟩) hlz).trans (hlc k _ hx 3 (by omega))
              clear hlc hmc hmx hx t6
              have hv := fun w => has_any s (ms.getD (N + k) 0) w
              generalize nodeM N l ms q k = A at *
              generalize nodeM N l ms p k = B at *
              have hrl := rowM_len N l ms k
              generalize rowM N l ms k = R at *
              generalize ms.getD (N + k) 0 = m at *
              have hkl : (k : Int) < l.length := by omega
              have hk0 : (0 : Int) ≤ k := by omega
              have hnk0 : (0 : Int) ≤ (N : Int) + k := by omega
              have hnkm : (N : Int) + k < ((N + l.length : Nat) : Int) := by omega
              have hq0 : (0 : Int) ≤ q := by omega
              have hqN : (q : Int) < N := by omega
              have hp0 : (0 : Int) ≤ p := by omega
              have hpN : (p : Int) < N := by omega
              have hk64 : (k : Int) ≤ 64 := by omega
              have BX := Blk.new wr 43 #[.int .i64 q, .int .i64 p, .int .i64 s.lo, .int .i64 s.hi]
              have hb2 := hb.alloc hsz (.cells #[.int .i64 q, .int .i64 p, .int .i64 s.lo, .int .i64 s.hi] 43)
              have em2 := (hb2.cell (p := ⟨mb, mo + (N + k), none⟩) hmz).trans em
              have hmlt := Nat.lt_of_lt_of_le hmz hb2.size
              have hgg : wr.heap.size ≠ g := by have := BS.lt; omega
              replace BS := BS.alloc (.cells #[.int .i64 q, .int .i64 p, .int .i64 s.lo, .int .i64 s.hi] 43)
              have HST := Lib.hid hst
              have HOP := Lib.hid hop
              have HNO := Lib.hid hno
              have HGQ := Lib.hid gq
              have HGP := Lib.hid gp
              have HRL := Lib.hid hrl
              clear hst hop hno hok gq gp hrl
              cases hhv : hasV s m with
              | false =>
                rw [hhv] at hv
                have HF := Lib.hid (HNO.out hhv)
                clear hhv
                go_wp2_with fail
                refine (hv _).mono ?_
                rintro e w5 ⟨rfl, hb5⟩
                go_wp2_with fail
                go_ret
                exact ⟨by rw [HON.out, HF.out]; simp, hb2.trans (hb5.mono hb2.size)⟩
              | true =>
                rw [hhv] at hv
                have HS := Lib.hid (HOP.out.trans hhv)
                obtain ⟨_, v1, v2⟩ := hasV_iff.1 hhv
                clear hhv
                go_wp2_with fail
                refine (hv _).mono ?_
                rintro e w5 ⟨rfl, hb5⟩
                clear em2 hmlt e0 e1 e2 e3
                replace BX := BX.step hb5
                replace BS := BS.step hb5
                replace hb := hb2.trans (hb5.mono hb2.size)
                generalize wr.heap.size = gx at *
                have cx := BX.cell
                have lx := BX.lt
                have cg : World.cell? w5 ⟨g, q, none⟩ = some (.int .i64 A) := BS.geti HGQ.out
                have fg := BS.free q
                have lg := BS.lt
                have cx1 := (BX.far (p := ⟨g, q, none⟩) hgg (.int .i64 (A - m))).cell
                have hgp2 : (R.set q (A - m))[p]? = some B := by rw [List.getElem?_set_ne (Ne.symm hpq)]; exact HGP.out
                have cg1 : World.cell? (w5.setCell ⟨g, q, none⟩ (.int .i64 (A - m))) ⟨g, p, none⟩ = some (.int .i64 B) := (BS.seti q (A - m)).geti hgp2
                have fg1 := (BS.seti q (A - m)).free p
                go_wp2_with fail
                replace BS := (BS.seti q (A - m)).seti p (B + m)
                rw [HST.out] at BS
                go_roundw
                case rel => exact ⟨k + 1, hlt, by simp, HS.out, (hb.setCell (p := ⟨g, q, none⟩) hgw _).setCell (p := ⟨g, p, none⟩) hgw _, BS⟩
                case measure => simp [intOf]; omega
            · obtain rfl : k = l.length := by omega
              have HMK := Lib.hid hok
              clear hok hlt hk
              go_wp2_with fail
              go_loopw [95] (fun i wr => HcRel w g N l c ms i wr) (fun i _ => (N - intOf i).toNat)
              case atStart => exact ⟨0, Nat.zero_le _, rfl, rfl, hb, BS⟩
              case round =>
                clear hb BS hsz
                obtain ⟨k, hk, rfl, hok, hb, BS⟩ := hrel
                have hsz := hb.size
                by_cases hlt : k < N
                · have hx : c[k]? = some (c.getD k sp0) := getD_s (by rw [HCL.out]; exact hlt)
                  have hgt := rowM_get l ms l.length hlt
                  have hop := all_succ (fun i => hasV (c.getD i sp0) (nodeM N l ms i l.length)) k
                  have hno := all_stop (f := fun i => hasV (c.getD i sp0) (nodeM N l ms i l.length)) hlt
                  change closeIn N l c ms (k + 1) = (closeIn N l c ms k && hasV (c.getD k sp0) (nodeM N l ms k l.length)) at hop
                  change hasV (c.getD k sp0) (nodeM N l ms k l.length) = false → closeIn N l c ms N = false at hno
                  rw [hok, Bool.true_and] at hop
                  obtain ⟨ob, oo, hoo, hoz, hoc⟩ := HQ.out (by rintro rfl; simp at hx)
                  subst hoo
                  have hkl : (k : Int) < N := by omega
                  have hk0 : (0 : Int) ≤ k := by omega
                  have e0 : World.cell? wr ⟨ob, oo + k * 2, none⟩ = some (.int .i64 (c.getD k sp0).lo) := (hb.cell (p := ⟨ob, oo + k * 2, none⟩) hoz).trans (hoc k _ hx 0 (by omega))
                  have e1 : World.cell? wr ⟨ob, oo + k * 2 + 1, none⟩ = some (.int .i64 (c.getD k sp0).hi) := (hb.cell (p := ⟨ob, oo + k * 2 + 1, none⟩) hoz).trans (hoc k _ hx 1 (by omega))
                  have hv := fun w => has_any (c.getD k sp0) (nodeM N l ms k l.length) w
                  generalize c.getD k sp0 = x at *
                  generalize nodeM N l ms k l.length = m at *
                  clear hoc hx
                  have HOP := Lib.hid hop
                  have HNO := Lib.hid hno
                  have HGT := Lib.hid hgt
                  clear hop hno hok hgt
                  have BX := Blk.new wr 41 (#[.int .i64 (x).lo, .int .i64 (x).hi])
                  go_wp2_with fail
                  replace BS := BS.alloc (.cells (#[.int .i64 (x).lo, .int .i64 (x).hi]) 41)
                  replace hb := hb.alloc hsz (.cells (#[.int .i64 (x).lo, .int .i64 (x).hi]) 41)
                  clear e0 e1
                  have lx := BX.lt
                  have lg := BS.lt
                  generalize wr.alloc (.cells (#[.int .i64 (x).lo, .int .i64 (x).hi]) 41) = w2 at *
                  generalize wr.heap.size = gx at *
                  have c2 : ∀ y : BW w2, ∀ j, y.w.cell? ⟨gx, j, none⟩ = (#[.int .i64 (x).lo, .int .i64 (x).hi])[j]? := fun y => (BX.bw y).cell
                  have c3 : ∀ y : BW w2, y.w.cell? ⟨g, k, none⟩ = some (.int .i64 m) := fun y => (BS.bw y).geti HGT.out
                  cases hhv : hasV x m with
                  | false =>
                    rw [hhv] at hv
                    have HF := Lib.hid (HNO.out hhv)
                    clear hhv
                    refine wp_region_calm (by kernel_rfl) (by kernel_rfl) ?_
                    repeat (go_big_quiet_step (fail))
                    go_big_quiet_want; go_big_quiet_op; go_big_quiet_call (exact calls_bw (fun w => hv w) _)
                    repeat (go_big_quiet_step (fail))
                    first | refine wpQuiet_nil ?_ | skip
                    intro w5 hb5
                    go_wp2_with fail
                    go_ret
                    exact ⟨by rw [HON.out, HF.out]; simp, hb.trans (hb5.mono hb.size)⟩
                  | true =>
                    rw [hhv] at hv
                    have HS := Lib.hid (HOP.out.trans hhv)
                    clear hhv
                    refine wp_region_calm (by kernel_rfl) (by kernel_rfl) ?_
                    repeat (go_big_quiet_step (fail))
                    go_big_quiet_want; go_big_quiet_op; go_big_quiet_call (exact calls_bw (fun w => hv w) _)
                    repeat (go_big_quiet_step (fail))
                    first | refine wpQuiet_nil ?_ | skip
                    intro w5 hb5
                    replace BS := BS.step hb5
                    replace hb := hb.trans (hb5.mono hb.size)
                    go_wp2_with fail
                    go_roundw
                    case rel => exact ⟨k + 1, hlt, by simp, HS.out, hb, BS⟩
                    case measure => simp [intOf]; omega
                · obtain rfl : N = k := by omega
                  have HFC := Lib.hid hok
                  clear hok
                  go_wp2_with fail
                  go_ret
                  exact ⟨by rw [HON.out, HOK.out, HMK.out, HFC.out]; rfl, hb⟩
    · have hf := HF.out hml
      have hml' : ((ms.length : Int) != (N : Int) + l.length) = true := bne_iff_ne.2 hml
      clear hml
      rw [hf]
      clear hf l1 l2 o1 o2 q1 q2 m1 m2 HF HON hN hcl hcl'
      go_enter Try.func22, Try.ntmps22
      go_wp2_with fail
      refine (hck _ ho hl hc).mono ?_
      rintro e w1 ⟨rfl, hb1⟩
      go_wp2_with fail
      go_ret
      exact ⟨rfl, hb1⟩
  · have hf : holdsB n o l c ms = false := by unfold holdsB; rw [decide_eq_false h0]; rfl
    rw [hf]
    have h0' : (bchkA n o l c != 0) = true := by simpa using h0
    clear h0 hf
    generalize bchkA n o l c = E at *
    go_enter Try.func22, Try.ntmps22
    go_wp2_with fail
    refine (hck _ ho hl hc).mono ?_
    rintro e w1 ⟨rfl, hb1⟩
    go_wp2_with fail
    go_ret
    exact ⟨rfl, hb1⟩

end Go.Proofs.Ythaoclocachbaaa
