/- Contract: Holds of the reference. -/
import Derived.Test.YthaoclocachbaaaBalK
namespace Go.Proofs.Ythaoclocachbaaa
set_option linter.unusedVariables false
set_option linter.unusedSimpArgs false
open Go.RowKit

theorem hasV3 {s : Sp} (h : sval s = true) (m : Int) : (m < s.lo ∧ hasV s m = false) ∨ (¬ m < s.lo ∧ m > s.hi ∧ hasV s m = false) ∨ (¬ m < s.lo ∧ ¬ m > s.hi ∧ hasV s m = true) := by
  unfold hasV
  rw [h, Bool.true_and]
  by_cases h1 : m < s.lo
  · exact .inl ⟨h1, decide_eq_false (by omega)⟩
  · by_cases h2 : m > s.hi
    · exact .inr (.inl ⟨h1, h2, decide_eq_false (by omega)⟩)
    · exact .inr (.inr ⟨h1, h2, decide_eq_true (by omega)⟩)
def RoRel (w : World) (N : Nat) (o : List Sp) (ms : List Int) (i : Value) (wr : World) : Prop := ∃ k : Nat, k ≤ N ∧ i = .int .i64 k ∧ openIn o ms k = true ∧ Below w.heap.size w wr
def RmRel (w : World) (N : Nat) (l : List Tr) (ms : List Int) (i : Value) (wr : World) : Prop := ∃ k : Nat, k ≤ l.length ∧ i = .int .i64 k ∧ movesIn N l ms k = true ∧ Below w.heap.size w wr
def RcRel (w : World) (N : Nat) (l : List Tr) (c : List Sp) (ms : List Int) (i : Value) (wr : World) : Prop := ∃ k : Nat, k ≤ N ∧ i = .int .i64 k ∧ closeIn N l c ms k = true ∧ Below w.heap.size w wr
def RnRel (w : World) (N : Nat) (l : List Tr) (ms : List Int) (i : Nat) (s j : Value) (wr : World) : Prop := ∃ k : Nat, k ≤ l.length ∧ j = .int .i64 k ∧ s = .int .i64 (nodeM N l ms i k) ∧ Below w.heap.size w wr
theorem opOk_val {s : Sp} (h : opOk s = true) : sval s = true := by
  unfold opOk at h; simp at h; exact h.1

set_option maxRecDepth 100000 in
set_option maxHeartbeats 8000000 in
theorem rholds_any {w : World} {vo vl vc vm : Value} (n : Int) {o : List Sp} {l : List Tr} {c : List Sp} {ms : List Int} (ho : RowIn w vo 2 encP o) (hl : RowIn w vl 4 encR l) (hc : RowIn w vc 2 encP c) (hm : RowIn w vm 1 (fun x : Int => [.int .i64 x]) ms) :
    Calls Try.prog 15 #[.int .i64 n, vo, vl, vc, vm] w fun e w' => e = .returned (.bool (holdsB n o l c ms)) ∧ Below w.heap.size w w' := by
  have hck := fun w ho hl hc => rcheckA_any (w := w) (vo := vo) (vl := vl) (vc := vc) n (o := o) (l := l) (c := c) ho hl hc
  by_cases h0 : bchkA n o l c = 0
  · obtain ⟨hA0, hcl, hcv⟩ := bchkA_ok h0
    have hB := bchk_ok hA0
    have hn1 := hB.n1
    have hn8 := hB.n8
    have hlen := hB.len
    have hfew := hB.few
    have hon := fun h => holdsB_on (ms := ms) h0 h
    have HOF : (ms.length : Int) ≠ n + l.length → holdsB n o l c ms = false := fun h => by unfold holdsB; rw [decide_eq_false h]; simp
    rw [h0] at hck
    have HB := Lib.hid hB
    have HON := Lib.hid hon
    have HF := Lib.hid HOF
    have HCV := Lib.hid hcv
    clear hon HOF h0 hA0 hB hcv
    obtain ⟨la, cb, rfl, l1, l2, _, hl5⟩ := id hl.at_
    obtain ⟨oa, ca, rfl, o1, o2, _, ho5⟩ := id ho.at_
    obtain ⟨qa, cq, rfl, q1, q2, _, hq5⟩ := id hc.at_
    obtain ⟨ma, cm, rfl, m1, m2, _, hm5⟩ := id hm.at_
    have HL := Lib.hid hl5
    have HO := Lib.hid ho5
    have HQ := Lib.hid hq5
    have HM := Lib.hid hm5
    clear hl5 ho5 hq5 hm5
    obtain ⟨N, hN⟩ : ∃ N : Nat, o.length = N := ⟨_, rfl⟩
    rw [hN] at hlen
    subst hlen
    have hcl' : c.length = N := by omega
    by_cases hml : (ms.length : Int) = N + l.length
    · have hml' : ms.length = N + l.length := by omega
      have hon := HON.out hml
      rw [hN] at hon
      clear HON HF hml
      have HON := Lib.hid hon
      clear hon
      have hn8' : N ≤ 8 := by omega
      rw [hN] at ho
      rw [hcl'] at hc
      rw [hml'] at hm
      rw [hN, hcl', hml']
      simp only [hN, hcl'] at hck
      have HN := Lib.hid hN
      have HCL := Lib.hid hcl'
      have HML := Lib.hid hml'
      clear l1 l2 o1 o2 q1 q2 m1 m2 hN hcl hcl' hml'
      go_enter Try.func15, Try.ntmps15
      go_wp2_with fail
      refine (hck _ ho hl hc).mono ?_
      rintro e w1 ⟨rfl, hb1⟩
      have hs1 := hb1.size
      clear ho hl hc hm
      go_wp2_with fail
      go_loopw [11] (fun i wr => RoRel w N o ms i wr) (fun i _ => (N - intOf i).toNat)
      case atStart => exact ⟨0, Nat.zero_le _, rfl, rfl, hb1⟩
      case round =>
        clear hb1 hs1
        obtain ⟨k, hk, rfl, hok, hb⟩ := hrel
        have hsz := hb.size
        by_cases hlt : k < N
        · have hx : o[k]? = some (o.getD k sp0) := getD_s (by rw [HN.out]; exact hlt)
          have hmx : ms[k]? = some (ms.getD k 0) := getD_i (by rw [HML.out]; omega)
          have hop := all_succ (fun i => hasV (o.getD i sp0) (ms.getD i 0)) k
          have hno := all_stop (f := fun i => hasV (o.getD i sp0) (ms.getD i 0)) hlt
          have hsv := opOk_val (HB.out.op _ (List.mem_of_getElem? hx))
          change openIn o ms (k + 1) = (openIn o ms k && hasV (o.getD k sp0) (ms.getD k 0)) at hop
          change hasV (o.getD k sp0) (ms.getD k 0) = false → openIn o ms N = false at hno
          rw [hok, Bool.true_and] at hop
          obtain ⟨ob, oo, hoo, hoz, hoc⟩ := HO.out (by rintro rfl; simp at hx)
          obtain ⟨mb, mo, hmo, hmz, hmc⟩ := HM.out (by rintro rfl; simp at hmx)
          subst hoo hmo
          have hkl : (k : Int) < N := by omega
          have hk0 : (0 : Int) ≤ k := by omega
          have hkm : (k : Int) < ((N + l.length : Nat) : Int) := by omega
          have e0 : World.cell? wr ⟨ob, oo + k * 2, none⟩ = some (.int .i64 (o.getD k sp0).lo) := (hb.cell (p := ⟨ob, oo + k * 2, none⟩) hoz).trans (hoc k _ hx 0 (by omega))
          have e1 : World.cell? wr ⟨ob, oo + k * 2 + 1, none⟩ = some (.int .i64 (o.getD k sp0).hi) := (hb.cell (p := ⟨ob, oo + k * 2 + 1, none⟩) hoz).trans (hoc k _ hx 1 (by omega))
          have em : World.cell? wr ⟨mb, mo + k, none⟩ = some (.int .i64 (ms.getD k 0)) := (hb.cell (p := ⟨mb, mo + k, none⟩) hmz).trans (by simpa using hmc k _ hmx 0 (by omega))
          generalize o.getD k sp0 = x at *
          generalize ms.getD k 0 = m at *
          clear hoc hmc hx hmx
          have HOP := Lib.hid hop
          have HNO := Lib.hid hno
          clear hop hno hok
          have hoz2 := Nat.lt_of_lt_of_le hoz hsz
          have hmz2 := Nat.lt_of_lt_of_le hmz hsz
          have c1 : ∀ y : BW wr, y.w.cell? ⟨ob, oo + k * 2, none⟩ = some (.int .i64 x.lo) := fun y => (y.cell hoz2).trans e0
          have c2 : ∀ y : BW wr, y.w.cell? ⟨ob, oo + k * 2 + 1, none⟩ = some (.int .i64 x.hi) := fun y => (y.cell hoz2).trans e1
          have c3 : ∀ y : BW wr, y.w.cell? ⟨mb, mo + k, none⟩ = some (.int .i64 m) := fun y => (y.cell hmz2).trans em
          rcases hasV3 hsv m with ⟨h1, hhv⟩ | ⟨h1, h2, hhv⟩ | ⟨h1, h2, hhv⟩
          · have HF := Lib.hid (HNO.out hhv)
            clear hhv
            go_wp2_with fail
            refine wp_region_calm (by kernel_rfl) (by kernel_rfl) ?_
            repeat (go_big_quiet_step (fail))
            first | refine wpQuiet_nil ?_ | skip
            intro w5 hb5
            go_wp2_with fail
            go_ret
            exact ⟨by rw [HON.out, HF.out]; rfl, hb.trans (hb5.mono hb.size)⟩
          · have HF := Lib.hid (HNO.out hhv)
            clear hhv
            have d1 : decide (m < x.lo) = false := decide_eq_false h1
            have d2 : decide (x.hi < m) = true := decide_eq_true h2
            go_wp2_with fail
            refine wp_region_calm (by kernel_rfl) (by kernel_rfl) ?_
            repeat (go_big_quiet_step (fail))
            first | refine wpQuiet_nil ?_ | skip
            intro w5 hb5
            go_wp2_with fail
            go_ret
            exact ⟨by rw [HON.out, HF.out]; rfl, hb.trans (hb5.mono hb.size)⟩
          · have HS := Lib.hid (HOP.out.trans hhv)
            clear hhv
            have d1 : decide (m < x.lo) = false := decide_eq_false h1
            have d2 : decide (x.hi < m) = false := decide_eq_false h2
            go_wp2_with fail
            refine wp_region_calm (by kernel_rfl) (by kernel_rfl) ?_
            repeat (go_big_quiet_step (fail))
            first | refine wpQuiet_nil ?_ | skip
            intro w5 hb5
            go_wp2_with fail
            go_roundw
            case rel => exact ⟨k + 1, hlt, by simp, HS.out, hb.trans (hb5.mono hb.size)⟩
            case measure => simp [intOf]; omega
        · obtain rfl : N = k := by omega
          have HOB := Lib.hid fun i (hi : i < N) => open_bd HB.out (by rw [HN.out]; exact hok) (i := i) (by rw [HN.out]; exact hi)
          have HOK := Lib.hid hok
          clear hok hlt hk
          go_wp2_with fail
          go_loopw [12] (fun i wr => RmRel w N l ms i wr) (fun i _ => (l.length - intOf i).toNat)
          case atStart => exact ⟨0, Nat.zero_le _, rfl, rfl, hb⟩
          case round =>
            clear hb hsz
            obtain ⟨k, hk, rfl, hok, hb⟩ := hrel
            have hsz := hb.size
            by_cases hlt : k < l.length
            · have hx : l[k]? = some (l.getD k tr0) := getD_t hlt
              have hmx : ms[N + k]? = some (ms.getD (N + k) 0) := getD_i (by rw [HML.out]; omega)
              have htr := trE_iff.1 (HB.out.tr _ (List.mem_of_getElem? hx))
              have hop := all_succ (fun i => hasV (l.getD i tr0).mass (ms.getD (N + i) 0)) k
              have hno := all_stop (f := fun i => hasV (l.getD i tr0).mass (ms.getD (N + i) 0)) hlt
              change movesIn N l ms (k + 1) = (movesIn N l ms k && hasV (l.getD k tr0).mass (ms.getD (N + k) 0)) at hop
              change hasV (l.getD k tr0).mass (ms.getD (N + k) 0) = false → movesIn N l ms l.length = false at hno
              rw [hok, Bool.true_and] at hop
              obtain ⟨lb, lo, hlo, hlz, hlc⟩ := HL.out (by rintro rfl; simp at hx)
              obtain ⟨mb, mo, hmo, hmz, hmc⟩ := HM.out (by rintro rfl; simp at hmx)
              subst hlo hmo
              have em : World.cell? wr ⟨mb, mo + (N + k), none⟩ = some (.int .i64 (ms.getD (N + k) 0)) := (hb.cell (p := ⟨mb, mo + (N + k), none⟩) hmz).trans (by simpa using hmc (N + k) _ hmx 0 (by omega))
              generalize l.getD k tr0 = x at *
              obtain ⟨xf, xt, s⟩ := x
              obtain ⟨t1, t2, t3, t4, t5, t6⟩ := htr
              dsimp only at t1 t2 t3 t4 t5 t6 hop hno
              have e2 : World.cell? wr ⟨lb, lo + k * 4 + 2, none⟩ = some (.int .i64 s.lo) := (hb.cell (p := ⟨lb, lo + k * 4 + 2, none⟩) hlz).trans (hlc k _ hx 2 (by omega))
              have e3 : World.cell? wr ⟨lb, lo + k * 4 + 3, none⟩ = some (.int .i64 s.hi) := (hb.cell (p := ⟨lb, lo + k * 4 + 3, none⟩) hlz).trans (hlc k _ hx 3 (by omega))
              have hsv := opOk_val t6
              clear hlc hmc hmx hx t6 t1 t2 t3 t4 t5
              generalize ms.getD (N + k) 0 = m at *
              have hkl : (k : Int) < l.length := by omega
              have hk0 : (0 : Int) ≤ k := by omega
              have hnk0 : (0 : Int) ≤ (N : Int) + k := by omega
              have hnkm : (N : Int) + k < ((N + l.length : Nat) : Int) := by omega
              have hk64 : (k : Int) ≤ 64 := by omega
              have HOP := Lib.hid hop
              have HNO := Lib.hid hno
              clear hop hno hok
              have hlz2 := Nat.lt_of_lt_of_le hlz hsz
              have hmz2 := Nat.lt_of_lt_of_le hmz hsz
              have c1 : ∀ y : BW wr, y.w.cell? ⟨lb, lo + k * 4 + 2, none⟩ = some (.int .i64 s.lo) := fun y => (y.cell hlz2).trans e2
              have c2 : ∀ y : BW wr, y.w.cell? ⟨lb, lo + k * 4 + 2 + 1, none⟩ = some (.int .i64 s.hi) := fun y => (y.cell hlz2).trans e3
              have c3 : ∀ y : BW wr, y.w.cell? ⟨mb, mo + (N + k), none⟩ = some (.int .i64 m) := fun y => (y.cell hmz2).trans em
              rcases hasV3 hsv m with ⟨h1, hhv⟩ | ⟨h1, h2, hhv⟩ | ⟨h1, h2, hhv⟩
              · have HF := Lib.hid (HNO.out hhv)
                clear hhv
                go_wp2_with fail
                refine wp_region_calm (by kernel_rfl) (by kernel_rfl) ?_
                repeat (go_big_quiet_step (fail))
                first | refine wpQuiet_nil ?_ | skip
                intro w5 hb5
                go_wp2_with fail
                go_ret
                exact ⟨by rw [HON.out, HF.out]; simp, hb.trans (hb5.mono hb.size)⟩
              · have HF := Lib.hid (HNO.out hhv)
                clear hhv
                have d1 : decide (m < s.lo) = false := decide_eq_false h1
                have d2 : decide (s.hi < m) = true := decide_eq_true h2
                go_wp2_with fail
                refine wp_region_calm (by kernel_rfl) (by kernel_rfl) ?_
                repeat (go_big_quiet_step (fail))
                first | refine wpQuiet_nil ?_ | skip
                intro w5 hb5
                go_wp2_with fail
                go_ret
                exact ⟨by rw [HON.out, HF.out]; simp, hb.trans (hb5.mono hb.size)⟩
              · have HS := Lib.hid (HOP.out.trans hhv)
                clear hhv
                have d1 : decide (m < s.lo) = false := decide_eq_false h1
                have d2 : decide (s.hi < m) = false := decide_eq_false h2
                go_wp2_with fail
                refine wp_region_calm (by kernel_rfl) (by kernel_rfl) ?_
                repeat (go_big_quiet_step (fail))
                first | refine wpQuiet_nil ?_ | skip
                intro w5 hb5
                go_wp2_with fail
                go_roundw
                case rel => exact ⟨k + 1, hlt, by simp, HS.out, hb.trans (hb5.mono hb.size)⟩
                case measure => simp [intOf]; omega
            · obtain rfl : k = l.length := by omega
              have HMB := Lib.hid fun j (hj : j < l.length) => move_bd HB.out (Nat.le_refl _) hok hj
              have HMK := Lib.hid hok
              clear hok hlt hk
              go_wp2_with fail
              go_loopw [13] (fun i wr => RcRel w N l c ms i wr) (fun i _ => (N - intOf i).toNat)
              case atStart => exact ⟨0, Nat.zero_le _, rfl, rfl, hb⟩
              case round =>
                clear hb hsz
                obtain ⟨k, hk, rfl, hok, hb⟩ := hrel
                have hsz := hb.size
                by_cases hlt : k < N
                · have hmx : ms[k]? = some (ms.getD k 0) := getD_i (by rw [HML.out]; omega)
                  obtain ⟨mb, mo, hmo, hmz, hmc⟩ := HM.out (by rintro rfl; simp at hmx)
                  subst hmo
                  have hkl : (k : Int) < N := by omega
                  have hk0 : (0 : Int) ≤ k := by omega
                  have hkm : (k : Int) < ((N + l.length : Nat) : Int) := by omega
                  have em : World.cell? wr ⟨mb, mo + k, none⟩ = some (.int .i64 (nodeM N l ms k 0)) := (hb.cell (p := ⟨mb, mo + k, none⟩) hmz).trans (by have := hmc k _ hmx 0 (by omega); rw [Nat.mul_one, Nat.add_zero] at this; exact this)
                  have HOK2 := Lib.hid hok
                  clear hok
                  go_wp2_with fail
                  clear em
                  go_loopw [14, 15] (fun s j wz => RnRel w N l ms k s j wz) (fun _ j _ => (l.length - intOf j).toNat)
                  case atStart => exact ⟨0, Nat.zero_le _, rfl, rfl, hb⟩
                  case round =>
                    clear hb hsz
                    obtain ⟨j, hj, rfl, rfl, hb⟩ := hrel
                    have hsz := hb.size
                    have hbA := nodeM_bd l (HOB.out k hlt) j (fun i hi => HMB.out i (by omega))
                    obtain ⟨a1, a2⟩ := hbA
                    have hj64 : (j : Int) ≤ 64 := by omega
                    by_cases hjt : j < l.length
                    · have hx : l[j]? = some (l.getD j tr0) := getD_t hjt
                      have hmx2 : ms[N + j]? = some (ms.getD (N + j) 0) := getD_i (by rw [HML.out]; omega)
                      have htr := trE_iff.1 (HB.out.tr _ (List.mem_of_getElem? hx))
                      obtain ⟨b1, b2⟩ := HMB.out j hjt
                      obtain ⟨lb, lo, hlo, hlz, hlc⟩ := HL.out (by rintro rfl; simp at hx)
                      subst hlo
                      have em : World.cell? wr ⟨mb, mo + (N + j), none⟩ = some (.int .i64 (ms.getD (N + j) 0)) := (hb.cell (p := ⟨mb, mo + (N + j), none⟩) hmz).trans (by simpa using hmc (N + j) _ hmx2 0 (by omega))
                      have hst : nodeM N l ms k (j + 1) = mstep N k ms (nodeM N l ms k j) j (l.getD j tr0) := rfl
                      unfold mstep at hst
                      generalize l.getD j tr0 = x at *
                      obtain ⟨xf, xt, s⟩ := x
                      obtain ⟨t1, t2, t3, t4, t5, t6⟩ := htr
                      dsimp only at t1 t2 t3 t4 t5 t6 hst
                      have e0 : World.cell? wr ⟨lb, lo + j * 4, none⟩ = some (.int .i64 xf) := (hb.cell (p := ⟨lb, lo + j * 4, none⟩) hlz).trans (hlc j _ hx 0 (by omega))
                      have e1 : World.cell? wr ⟨lb, lo + j * 4 + 1, none⟩ = some (.int .i64 xt) := (hb.cell (p := ⟨lb, lo + j * 4 + 1, none⟩) hlz).trans (hlc j _ hx 1 (by omega))
                      generalize ms.getD (N + j) 0 = m at *
                      generalize nodeM N l ms k j = A at *
                      clear hlc hx hmx2 t6
                      have hjl : (j : Int) < l.length := by omega
                      have hj0 : (0 : Int) ≤ j := by omega
                      have hnk0 : (0 : Int) ≤ (N : Int) + j := by omega
                      have hnkm : (N : Int) + j < ((N + l.length : Nat) : Int) := by omega
                      by_cases c1 : xt = k
                      · have d1 : (xt == (k : Int)) = true := by simpa using c1
                        have c2' : ¬ xf = k := by omega
                        have d2 : (xf == (k : Int)) = false := by simpa using c2'
                        rw [if_pos c1, if_neg c2'] at hst
                        have HST := Lib.hid hst
                        clear c1 c2' hst t5
                        go_wp2_with fail
                        go_roundw
                        case rel => exact ⟨j + 1, hjt, by simp, by rw [HST.out], hb⟩
                        case measure => simp [intOf]; omega
                      · have d1 : (xt == (k : Int)) = false := by simpa using c1
                        rw [if_neg c1] at hst
                        by_cases c2 : xf = k
                        · have d2 : (xf == (k : Int)) = true := by simpa using c2
                          rw [if_pos c2] at hst
                          have HST := Lib.hid hst
                          clear c1 c2 hst t5
                          go_wp2_with fail
                          go_roundw
                          case rel => exact ⟨j + 1, hjt, by simp, by rw [HST.out], hb⟩
                          case measure => simp [intOf]; omega
                        · have d2 : (xf == (k : Int)) = false := by simpa using c2
                          rw [if_neg c2] at hst
                          have HST := Lib.hid hst
                          clear c1 c2 hst t5
                          go_wp2_with fail
                          go_roundw
                          case rel => exact ⟨j + 1, hjt, by simp, by rw [HST.out], hb⟩
                          case measure => simp [intOf]; omega
                    · obtain rfl : j = l.length := by omega
                      have hx : c[k]? = some (c.getD k sp0) := getD_s (by rw [HCL.out]; exact hlt)
                      have hop := all_succ (fun i => hasV (c.getD i sp0) (nodeM N l ms i l.length)) k
                      have hno := all_stop (f := fun i => hasV (c.getD i sp0) (nodeM N l ms i l.length)) hlt
                      change closeIn N l c ms (k + 1) = (closeIn N l c ms k && hasV (c.getD k sp0) (nodeM N l ms k l.length)) at hop
                      change hasV (c.getD k sp0) (nodeM N l ms k l.length) = false → closeIn N l c ms N = false at hno
                      rw [HOK2.out, Bool.true_and] at hop
                      obtain ⟨ob, oo, hoo, hoz, hoc⟩ := HQ.out (by rintro rfl; simp at hx)
                      subst hoo
                      have hsv := allV_mem HCV.out (List.mem_of_getElem? hx)
                      have e0 : World.cell? wr ⟨ob, oo + k * 2, none⟩ = some (.int .i64 (c.getD k sp0).lo) := (hb.cell (p := ⟨ob, oo + k * 2, none⟩) hoz).trans (hoc k _ hx 0 (by omega))
                      have e1 : World.cell? wr ⟨ob, oo + k * 2 + 1, none⟩ = some (.int .i64 (c.getD k sp0).hi) := (hb.cell (p := ⟨ob, oo + k * 2 + 1, none⟩) hoz).trans (hoc k _ hx 1 (by omega))
                      generalize c.getD k sp0 = x at *
                      generalize nodeM N l ms k l.length = m at *
                      clear hoc hx hjt hj hmc hmx
                      have HOP := Lib.hid hop
                      have HNO := Lib.hid hno
                      clear hop hno
                      have hoz2 := Nat.lt_of_lt_of_le hoz hsz
                      have c1 : ∀ y : BW wr, y.w.cell? ⟨ob, oo + k * 2, none⟩ = some (.int .i64 x.lo) := fun y => (y.cell hoz2).trans e0
                      have c2 : ∀ y : BW wr, y.w.cell? ⟨ob, oo + k * 2 + 1, none⟩ = some (.int .i64 x.hi) := fun y => (y.cell hoz2).trans e1
                      rcases hasV3 hsv m with ⟨h1, hhv⟩ | ⟨h1, h2, hhv⟩ | ⟨h1, h2, hhv⟩
                      · have HF := Lib.hid (HNO.out hhv)
                        clear hhv
                        go_wp2_with fail
                        go_ret
                        exact ⟨by rw [HON.out, HF.out]; simp, hb⟩
                      · have HF := Lib.hid (HNO.out hhv)
                        clear hhv
                        go_wp2_with fail
                        go_ret
                        exact ⟨by rw [HON.out, HF.out]; simp, hb⟩
                      · have HS := Lib.hid (HOP.out.trans hhv)
                        clear hhv
                        go_wp2_with fail
                        go_roundw
                        case rel => exact ⟨k + 1, hlt, by simp, HS.out, hb⟩
                        case measure => simp [intOf]; omega
                · obtain rfl : N = k := by omega
                  have HFC := Lib.hid hok
                  clear hok
                  go_wp2_with fail
                  go_ret
                  exact ⟨by rw [HON.out, HOK.out, HMK.out, HFC.out]; rfl, hb⟩
    · have hf := HF.out hml
      have hml' : ((ms.length : Int) != (N : Int) + l.length) = true := bne_iff_ne.2 hml
      clear hml
      rw [hf]
      clear hf l1 l2 o1 o2 q1 q2 m1 m2 HF HON hN hcl hcl'
      go_enter Try.func15, Try.ntmps15
      go_wp2_with fail
      refine (hck _ ho hl hc).mono ?_
      rintro e w1 ⟨rfl, hb1⟩
      go_wp2_with fail
      go_ret
      exact ⟨rfl, hb1⟩
  · have hf : holdsB n o l c ms = false := by unfold holdsB; rw [decide_eq_false h0]; rfl
    rw [hf]
    have h0' : (bchkA n o l c != 0) = true := by simpa using h0
    clear h0 hf
    generalize bchkA n o l c = E at *
    go_enter Try.func15, Try.ntmps15
    go_wp2_with fail
    refine (hck _ ho hl hc).mono ?_
    rintro e w1 ⟨rfl, hb1⟩
    go_wp2_with fail
    go_ret
    exact ⟨rfl, hb1⟩

end Go.Proofs.Ythaoclocachbaaa
