/- Contract: used of the reference. -/
import Derived.Test.YtpafcdigcpbbeaaLotV
namespace Go.Proofs.Ytpafcdigcpbbeaa
set_option linter.unusedVariables false
set_option linter.unusedSimpArgs false
open Go.RowKit

/-- Whether a lot is a part of a reached lot from r on. -/
def upP (L : List Lv) (c r j : Nat) : Bool := (List.range L.length).any fun q => decide (r ≤ q) && rB L c q && (pk L q).contains j
theorem upP_iff {L : List Lv} {c r j : Nat} : upP L c r j = true ↔ ∃ q, r ≤ q ∧ q < L.length ∧ rB L c q = true ∧ j ∈ pk L q := by
  unfold upP
  rw [List.any_eq_true]
  constructor
  · rintro ⟨q, hq, h⟩
    simp at h hq
    exact ⟨q, h.1.1, hq, h.1.2, h.2⟩
  · rintro ⟨q, h1, h2, h3, h4⟩
    exact ⟨q, by simpa using h2, by simp [h1, h3, h4]⟩
def udR (L : List Lv) (c r j : Nat) : Bool := if r ≤ j then rB L c j else upP L c r j
def udI (L : List Lv) (c i m j : Nat) : Bool := if i ≤ j then rB L c j else upP L c (i + 1) j || ((pk L i).take m).contains j
def udK (L : List Lv) (c i m G k j : Nat) : Bool := udI L c i m j || (decide (j < k) && decide (j = G))
theorem udR_zero (L : List Lv) (c j : Nat) (hj : j < L.length) : udR L c L.length j = false := by
  unfold udR
  rw [if_neg (by omega), ← Bool.not_eq_true, upP_iff]
  rintro ⟨q, h1, h2, _⟩
  omega
theorem rB_last {L : List Lv} (h : chkL L = 0) {c i : Nat} (hc : c < L.length) : rB L c i = (upP L c (i + 1) i || decide (i = c)) := by
  rw [Bool.eq_iff_iff, rB_iff h hc, Bool.or_eq_true, upP_iff, decide_eq_true_iff]
  constructor
  · intro hr
    rcases hr.last with rfl | ⟨q, h1, h2⟩
    · exact .inr rfl
    · have := h1.le h hc
      have := pk_lt h (show q < L.length by omega) h2
      exact .inl ⟨q, by omega, by omega, (rB_iff h hc).2 h1, h2⟩
  · rintro (⟨q, h1, h2, h3, h4⟩ | rfl)
    · exact ((rB_iff h hc).1 h3).trans (.step h4 (.refl _))
    · exact .refl _
theorem udR_at {L : List Lv} (h : chkL L = 0) {c i : Nat} (hc : c < L.length) : (udR L c (i + 1) i || decide (i = c)) = rB L c i := by
  rw [rB_last h hc]
  unfold udR
  rw [if_neg (by omega)]
theorem udR_set {L : List Lv} {c i : Nat} (j : Nat) : (if j = i then rB L c i else udR L c (i + 1) j) = udI L c i 0 j := by
  unfold udI udR
  by_cases e : j = i
  · subst e; rw [if_pos rfl, if_pos (Nat.le_refl _)]
  · rw [if_neg e]
    by_cases e2 : i ≤ j
    · rw [if_pos e2, if_pos (by omega)]
    · rw [if_neg e2, if_neg (by omega)]; simp
theorem upP_succ {L : List Lv} {c i j : Nat} (hi : i < L.length) : upP L c i j = (upP L c (i + 1) j || (rB L c i && (pk L i).contains j)) := by
  rw [Bool.eq_iff_iff, Bool.or_eq_true, upP_iff, upP_iff, Bool.and_eq_true]
  constructor
  · rintro ⟨q, h1, h2, h3, h4⟩
    by_cases e : q = i
    · subst e; exact .inr ⟨h3, by simpa using h4⟩
    · exact .inl ⟨q, by omega, h2, h3, h4⟩
  · rintro (⟨q, h1, h2, h3, h4⟩ | ⟨h3, h4⟩)
    · exact ⟨q, by omega, h2, h3, h4⟩
    · exact ⟨i, Nat.le_refl _, hi, h3, by simpa using h4⟩
theorem udI_no {L : List Lv} {c i : Nat} (hi : i < L.length) (h : rB L c i = false) (j : Nat) : udI L c i 0 j = udR L c i j := by
  unfold udI udR
  by_cases e : i ≤ j
  · rw [if_pos e, if_pos e]
  · rw [if_neg e, if_neg e, upP_succ hi, h]; simp
theorem udI_all {L : List Lv} {c i : Nat} (hi : i < L.length) (h : rB L c i = true) (j : Nat) : udI L c i (pk L i).length j = udR L c i j := by
  unfold udI udR
  by_cases e : i ≤ j
  · rw [if_pos e, if_pos e]
  · rw [if_neg e, if_neg e, upP_succ hi, h, List.take_length]; simp
theorem udK_zero (L : List Lv) (c i m G j : Nat) : udK L c i m G 0 j = udI L c i m j := by unfold udK; simp
theorem udK_set {L : List Lv} {c i m G : Nat} (j : Nat) : (if j = G then true else udK L c i m G G j) = udK L c i m G (G + 1) j := by
  unfold udK
  by_cases e : j = G
  · subst e; simp
  · rw [if_neg e]; simp [e]
theorem udK_skip {L : List Lv} {c i m G k : Nat} (h : k ≠ G) (j : Nat) : udK L c i m G k j = udK L c i m G (k + 1) j := by
  unfold udK
  by_cases e : j = G
  · subst e
    have : decide (j < k) = decide (j < k + 1) := by rw [decide_eq_decide]; omega
    rw [this]
  · simp [e]
theorem udK_all {L : List Lv} {c i m G : Nat} (hG : G < i) (hk : (pk L i)[m]? = some G) (j : Nat) : udK L c i m G i j = udI L c i (m + 1) j := by
  unfold udK udI
  by_cases e : i ≤ j
  · rw [if_pos e, if_pos e, decide_eq_false (show ¬ j < i by omega)]; simp
  · rw [if_neg e, if_neg e, List.take_add_one, hk, decide_eq_true (show j < i by omega)]
    simp only [Bool.true_and, Option.toList_some, List.contains_append, Bool.or_assoc]
    congr 2
    simp
def RuRel (w : World) (L : List Lv) (c : Nat) (i : Value) (wr : World) : Prop :=
  ∃ r : Nat, r ≤ L.length ∧ i = .int .i64 ((r : Int) - 1) ∧ Below w.heap.size w wr ∧ Blk wr w.heap.size 4 (bools (rowB L.length (udR L c r)))
def RpRel (w : World) (L : List Lv) (c i : Nat) (m : Value) (wr : World) : Prop :=
  ∃ k : Nat, k ≤ (L.getD i lv0).parts.length ∧ m = .int .i64 k ∧ Below w.heap.size w wr ∧ Blk wr w.heap.size 4 (bools (rowB L.length (udI L c i k)))
def RkRel2 (w : World) (L : List Lv) (c i m G px : Nat) (cs : Array Value) (o : Value) (wr : World) : Prop :=
  ∃ k : Nat, k ≤ i ∧ o = .int .i64 k ∧ Below w.heap.size w wr ∧ Blk wr w.heap.size 4 (bools (rowB L.length (udK L c i m G k))) ∧ Blk wr px 35 cs
set_option maxRecDepth 100000 in
set_option maxHeartbeats 8000000 in
theorem rused_any {w : World} {v : Value} {L : List Lv} (h : LotsIn w v L) (h0 : chkL L = 0) {c : Nat} (hc : c < L.length) {id : Int} (hid : id = (L.getD c lv0).id) :
    Calls Try.prog 36 #[v, .int .i64 id] w fun e w' => ∃ g, e = .returned (.slice (some ⟨g, 0, none⟩) L.length L.length) ∧ Blk w' g 4 (bools (rowB L.length (rB L c))) ∧ Below w.heap.size w w' ∧ w.heap.size ≤ g := by
  obtain ⟨oa, cap, hv, p1, p2, _, hp5⟩ := h.row.at_
  subst hv
  unfold maxLen at p2
  obtain ⟨ok1, ok2, ok3, ok4⟩ := chkL_ok h0
  have HP := Lib.hid hp5
  have HOK := Lib.hid h0
  have HFA := Lib.hid h
  have HND := Lib.hid ok3
  have HID := Lib.hid hid
  obtain ⟨ti, ii, iz, isi, iby⟩ := info_of (P := Try.prog) (t := 4) (z := .bool false) (size := 1) (bytes := 1) (by kernel_rfl)
  clear hp5 h0 h ok2 ok3 ok4 hid
  go_enter Try.func36, Try.ntmps36
  go_wp2_with (at_make; go_loud (refine wpList_make_row _ rfl _ _ 65 rfl 4 ti (.bool false) Try.underlying65 ii iz isi (by rfl) .i64 .i64 L.length rfl rfl (by rw [iby]; omega) (by omega) ?_))
  rw [bools_made, rowB_zero]
  go_wp2_with fail
  go_loopw [6] (fun o wr => RuRel w L c o wr) (fun o _ => (intOf o + 1).toNat)
  case atStart =>
    refine ⟨L.length, Nat.le_refl _, rfl, by repeat (first | (with_reducible exact Below.refl _ _) | (with_reducible assumption) | (with_reducible refine Below.drew ?_) | ((with_reducible refine Below.alloc ?_ ?_ _); rotate_left; (first | (with_reducible exact Nat.zero_le _) | (with_reducible exact Nat.le_refl _) | omega | (dsimp only; omega) | (simp only [World.size_alloc, World.size_setCell, World.size_drew]; omega))) | ((with_reducible refine Below.setCell ?_ ?_ _); rotate_left; (first | (with_reducible exact Nat.zero_le _) | (with_reducible exact Nat.le_refl _) | omega | (dsimp only; omega) | (simp only [World.size_alloc, World.size_setCell, World.size_drew]; omega)))), ?_⟩
    rw [← rowB_congr (T := fun _ => false) (U := udR L c L.length) (fun i hi => (udR_zero L c i hi).symm)]
    exact Blk.new w 4 (bools (rowB L.length (fun _ => false)))
  case round =>
    obtain ⟨r, hr, rfl, hbr, BG⟩ := hrel
    have hsz := hbr.size
    by_cases hr0 : 0 < r
    · obtain ⟨i, rfl⟩ : ∃ i, r = i + 1 := ⟨r - 1, by omega⟩
      have hi : i < L.length := by omega
      rw [show ((i + 1 : Nat) : Int) - 1 = (i : Int) by omega]
      have hii : (i : Int) < L.length := by omega
      have hi0 : (0 : Int) ≤ i := by omega
      have hx := getD_of (d := lv0) hi
      have hxm := List.mem_of_getElem? hx
      obtain ⟨ob, oo, rfl, hoz, hoc⟩ := HP.out (by rintro rfl; simp at hi)
      have ec := hoc i _ hx
      have q : ∀ j, wr.cell? ⟨ob, j, none⟩ = w.cell? ⟨ob, j, none⟩ := fun j => hbr.cell (p := ⟨ob, j, none⟩) hoz
      have hpr := HFA.out.part _ hxm
      have hpi := fun p hp => ixL_part HOK.out hi (p := p) hp
      have hpk : (pk L i).length = (L.getD i lv0).parts.length := by simp [pk]
      have hat := udR_at HOK.out (i := i) hc
      have hic : i = c ↔ (L.getD i lv0).id = id := ⟨fun e => by rw [e, HID.out], fun e => nodup_at HND.out i c hi hc (by rw [e, HID.out])⟩
      clear hx hxm
      obtain ⟨X, hX⟩ : ∃ X, X = L.getD i lv0 := ⟨_, rfl⟩
      rw [← hX] at ec hpr hpi hpk hic
      have e0 : World.cell? wr ⟨ob, oo + i * 5, none⟩ = some (.int .i64 X.id) := (q _).trans (ec 0 (by omega))
      have e4 : World.cell? wr ⟨ob, oo + i * 5 + 4, none⟩ = some (X.pv) := (q _).trans (ec 4 (by omega))
      clear ec q
      have HX := Lib.hid hX
      have HPI := Lib.hid hpi
      have HPK := Lib.hid hpk
      have HOC := Lib.hid hoc
      clear hX hpi hpk hoc
      obtain ⟨xi, xm, xl, xh, xv, ps⟩ := X
      dsimp only at *
      obtain ⟨pa, pc, hpv, r1, r2, _, hr5⟩ := hpr.at_
      subst hpv
      unfold maxLen at r2
      have HR := Lib.hid hr5
      clear hpr hr5
      have g0 : wr.cell? ⟨w.heap.size, i, none⟩ = some (.bool (udR L c (i + 1) i)) := BG.getb (rowB_get _ hi)
      have lG := BG.lt
      have fG := BG.free
      have hne : ob ≠ w.heap.size := by omega
      have BGs := BG.setb i (rB L c i)
      rw [rowB_set, rowB_congr (U := udI L c i 0) (fun j _ => udR_set j)] at BGs
      have HGS := Lib.hid BGs
      have HBS := Lib.hid (hbr.setCell (p := ⟨w.heap.size, i, none⟩) (Nat.le_refl _) (.bool (rB L c i)))
      have HNO := Lib.hid (fun hh j => udI_no (c := c) hi hh j)
      have HAL := Lib.hid (fun hh j => udI_all (c := c) hi hh j)
      generalize hUI : udR L c (i + 1) i = UI at *
      generalize hRB : rB L c i = RB at *
      have hsv : (UI || (xi == id)) = RB := by
        rw [← hat]
        congr 1
        rw [Bool.eq_iff_iff]; simp [hic]
      clear BG BGs hat hic hUI hRB
      cases RB with
      | false =>
        have hu : UI = false := by cases UI <;> simp_all
        have hxi : (xi == id) = false := by cases hb : (xi == id) <;> simp_all
        subst hu
        clear hsv
        go_wp2_with fail
        go_roundw
        case rel =>
          have := HGS.out
          rw [rowB_congr (U := udR L c i) (fun j _ => HNO.out (by first | rfl | trivial) j)] at this
          exact ⟨i, by omega, rfl, HBS.out, this⟩
        case measure => simp [intOf] <;> omega
      | true =>
        have hu : UI = true ∨ (UI = false ∧ (xi == id) = true) := by cases UI <;> simp_all
        clear hsv
        rcases hu with rfl | ⟨rfl, hxi⟩
        all_goals (
          go_wp2_with fail
          clear e0 e4 g0 lG fG
          go_loopw [47] (fun o wr => RpRel w L c i o wr) (fun o _ => (ps.length - intOf o).toNat)
          case atStart => exact ⟨0, Nat.zero_le _, rfl, HBS.out, HGS.out⟩
          case round =>
            obtain ⟨m, hm, rfl, hbr2, BG⟩ := hrel
            rw [← HX.out] at hm
            dsimp only at hm
            have hsz2 := hbr2.size
            by_cases hml : m < ps.length
            · have hmi : (m : Int) < ps.length := by omega
              have hm0 : (0 : Int) ≤ m := by omega
              have hx := getD_of (d := pt0) hml
              have hxm := List.mem_of_getElem? hx
              obtain ⟨pb, po, rfl, hpz, hpc⟩ := HR.out (by rintro rfl; simp at hml)
              have ec := hpc m _ hx
              have q : ∀ j, wr.cell? ⟨pb, j, none⟩ = w.cell? ⟨pb, j, none⟩ := fun j => hbr2.cell (p := ⟨pb, j, none⟩) hpz
              obtain ⟨x1, x2, x3⟩ := HPI.out _ hxm
              have hkk : (pk L i)[m]? = some (ixL L (ps.getD m pt0).lot) := by unfold pk; rw [← HX.out, List.getElem?_map]; dsimp only; rw [hx]; rfl
              clear hx hxm hpc x2
              generalize ps.getD m pt0 = p at *
              have e0 : World.cell? wr ⟨pb, po + m * 3, none⟩ = some (.int .i64 p.lot) := (q _).trans (ec 0 (by omega))
              have e1 : World.cell? wr ⟨pb, po + m * 3 + 1, none⟩ = some (.int .i64 p.lo) := (q _).trans (ec 1 (by omega))
              have e2 : World.cell? wr ⟨pb, po + m * 3 + 2, none⟩ = some (.int .i64 p.hi) := (q _).trans (ec 2 (by omega))
              clear ec q
              obtain ⟨y, pl, ph⟩ := p
              dsimp only at *
              generalize ixL L y = G at *
              have hbp : Below wr.heap.size wr (wr.alloc (.cells #[.int .i64 y, .int .i64 pl, .int .i64 ph] 35)) := by repeat (first | (with_reducible exact Below.refl _ _) | (with_reducible assumption) | (with_reducible refine Below.drew ?_) | ((with_reducible refine Below.alloc ?_ ?_ _); rotate_left; (first | (with_reducible exact Nat.zero_le _) | (with_reducible exact Nat.le_refl _) | omega | (dsimp only; omega) | (simp only [World.size_alloc, World.size_setCell, World.size_drew]; omega))) | ((with_reducible refine Below.setCell ?_ ?_ _); rotate_left; (first | (with_reducible exact Nat.zero_le _) | (with_reducible exact Nat.le_refl _) | omega | (dsimp only; omega) | (simp only [World.size_alloc, World.size_setCell, World.size_drew]; omega))))
              have BP := Blk.new wr 35 #[.int .i64 y, .int .i64 pl, .int .i64 ph]
              have hne2 : wr.heap.size ≠ w.heap.size := by have := BG.lt; omega
              have hne3 : ob ≠ wr.heap.size := by omega
              have HG1 := Lib.hid (BG.step hbp)
              have HB1 := Lib.hid (hbr2.trans (hbp.mono hsz2))
              have HKA := Lib.hid (fun j => udK_all (c := c) x1 hkk j)
              have HX3 := Lib.hid x3
              clear BG hbr2 hkk x3
              go_wp2_with fail
              clear e0 e1 e2
              go_loopw [9] (fun o wq => RkRel2 w L c i m G wr.heap.size #[.int .i64 y, .int .i64 pl, .int .i64 ph] o wq) (fun o _ => (i - intOf o).toNat)
              case atStart =>
                have := HG1.out
                rw [rowB_congr (U := udK L c i m G 0) (fun j _ => (udK_zero L c i m G j).symm)] at this
                exact ⟨0, Nat.zero_le _, rfl, HB1.out, this, BP⟩
              case round =>
                obtain ⟨k, hk, rfl, hbr3, BG3, BP3⟩ := hrel
                have hsz3 := hbr3.size
                by_cases hki : k < i
                · have hkl : k < L.length := by omega
                  have hkii : (k : Int) < i := by omega
                  have hkll : (k : Int) < L.length := by omega
                  have hk0 : (0 : Int) ≤ k := by omega
                  have e0 : World.cell? wr ⟨ob, oo + k * 5, none⟩ = some (.int .i64 (L.getD k lv0).id) := (hbr3.cell (p := ⟨ob, _, none⟩) hoz).trans (HOC.out k _ (getD_of (d := lv0) hkl) 0 (by omega))
                  have d0 : World.cell? wr ⟨_, 0, none⟩ = some (.int .i64 y) := BP3.cell 0
                  have lb := BG3.lt
                  have g3 := BG3.getb (rowB_get (udK L c i m G k) hkl)
                  have fb := BG3.free
                  have lP := BP3.lt
                  have hkG : (L.getD k lv0).id = y ↔ k = G := ⟨fun e => nodup_at HND.out k G hkl (by omega) (by rw [e, HX3.out]), fun e => by rw [e, HX3.out]⟩
                  generalize (L.getD k lv0).id = z at *
                  have HG3 := Lib.hid BG3
                  have HB3 := Lib.hid hbr3
                  have HP3 := Lib.hid BP3
                  clear BG3 BP3 hbr3
                  by_cases hzy : z = y
                  · have hz : (z == y) = true := by simpa using hzy
                    obtain rfl := hkG.1 hzy
                    clear hzy hkG
                    go_wp2_with fail
                    go_quiet (fail)
                    go_wp2_with fail
                    go_roundw
                    case rel =>
                      have hq := below_drewM (w := wr) nq
                      have BGq := (HG3.out.step hq).setb k true
                      rw [rowB_set, rowB_congr (U := udK L c i m k (k + 1)) (fun j _ => udK_set j)] at BGq
                      exact ⟨k + 1, by omega, by simp, (HB3.out.trans (hq.mono hsz3)).setCell (p := ⟨w.heap.size, k, none⟩) (Nat.le_refl _) _, BGq, (HP3.out.step hq).far hne2 _⟩
                    case measure => simp [intOf] <;> omega
                  · have hz : (z == y) = false := by simpa using hzy
                    have hkG' : k ≠ G := fun e => hzy (hkG.2 e)
                    clear hzy hkG
                    go_wp2_with fail
                    go_quiet (fail)
                    go_wp2_with fail
                    go_roundw
                    case rel =>
                      have hq := below_drewM (w := wr) nq
                      have BGq := HG3.out.step hq
                      rw [rowB_congr (U := udK L c i m G (k + 1)) (fun j _ => udK_skip hkG' j)] at BGq
                      exact ⟨k + 1, by omega, by simp, HB3.out.trans (hq.mono hsz3), BGq, HP3.out.step hq⟩
                    case measure => simp [intOf] <;> omega
                · obtain rfl : k = i := by omega
                  rw [rowB_congr (U := udI L c k (m + 1)) (fun j _ => HKA.out j)] at BG3
                  go_wp2_with fail
                  go_roundw
                  case rel => exact ⟨m + 1, by rw [← HX.out]; exact hml, by simp, hbr3, BG3⟩
                  case measure => simp [intOf] <;> omega
            · obtain rfl : m = ps.length := by omega
              rw [← HPK.out, rowB_congr (U := udR L c i) (fun j _ => HAL.out (by first | rfl | trivial) j)] at BG
              go_wp2_with fail
              go_roundw
              case rel => exact ⟨i, by omega, rfl, hbr2, BG⟩
              case measure => simp [intOf] <;> omega)
    · obtain rfl : r = 0 := by omega
      rw [rowB_congr (U := rB L c) (fun j _ => by unfold udR; rw [if_pos (Nat.zero_le _)])] at BG
      go_wp2_with fail
      go_ret
      exact ⟨_, rfl, BG, hbr, Nat.le_refl _⟩

end Go.Proofs.Ytpafcdigcpbbeaa
