/- Contract: Uses of the program. -/
import Derived.Test.YtpafcdigcpbbeaaLotU
namespace Go.Proofs.Ytpafcdigcpbbeaa
set_option linter.unusedVariables false
set_option linter.unusedSimpArgs false
open Go.RowKit

theorem own_far {w : World} {base C n : Nat} {e : TypeId} {v : Value} {xs : List Value} {p : Addr} (h : w.ownsRow base e C v n xs) (hp : p.block < base) (u : Value) : (w.setCell p u).ownsRow base e C v n xs := by
  obtain ⟨h1, h2⟩ := h
  refine ⟨h1, ?_⟩
  rcases h2 with ⟨rfl, h2⟩ | ⟨g, cap, cur, rfl, h3, h4, h5⟩
  · exact .inl ⟨rfl, h2⟩
  · exact .inr ⟨g, cap, cur, rfl, h3, (Below.heap_setCell w p u g (by omega)).trans h4, h5⟩
theorem useF_step {L : List Lv} (h : chkL L = 0) {i c : Nat} (hi : i < L.length) (hc : c < L.length) : useF L c i = (pk L i).any fun k => decide (k = c) || useF L c k := by
  rw [Bool.eq_iff_iff, List.any_eq_true]
  unfold useF
  rw [Bool.and_eq_true, rB_iff h hi]
  constructor
  · rintro ⟨h1, h2⟩
    rcases h2.head with rfl | ⟨q, hq, hr⟩
    · simp at h1
    · refine ⟨q, hq, ?_⟩
      have := pk_lt h hi hq
      by_cases e : q = c
      · simp [e]
      · have := (rB_iff h (show q < L.length by omega)).2 hr
        simp [e, this]
  · rintro ⟨q, hq, hr⟩
    have hlt := pk_lt h hi hq
    have hr : Rch L q c := by
      by_cases e : q = c
      · exact e ▸ .refl _
      · simp [e] at hr
        exact (rB_iff h (show q < L.length by omega)).1 hr
    have := hr.le h (by omega)
    exact ⟨by simp; omega, .step hq hr⟩
/-- The row of uses behind the first m parts of lot i. -/
def usR (L : List Lv) (c i m j : Nat) : Bool := if j = i then ((pk L i).take m).any fun k => decide (k = c) || useF L c k else decide (j < i) && useF L c j
theorem usR_zero (L : List Lv) (c i j : Nat) : usR L c i 0 j = (decide (j < i) && useF L c j) := by
  unfold usR
  by_cases e : j = i <;> simp [e]
theorem usR_succ {L : List Lv} {c i m k : Nat} (hk : (pk L i)[m]? = some k) (j : Nat) : usR L c i (m + 1) j = if j = i then (usR L c i m i || (decide (k = c) || useF L c k)) else usR L c i m j := by
  unfold usR
  by_cases e : j = i
  · rw [if_pos e, if_pos e, if_pos rfl, List.take_add_one, hk, List.any_append]; simp
  · rw [if_neg e, if_neg e, if_neg e]
theorem usR_all {L : List Lv} (h : chkL L = 0) {c i : Nat} (hi : i < L.length) (hc : c < L.length) (j : Nat) : usR L c i (pk L i).length j = (decide (j < i + 1) && useF L c j) := by
  unfold usR
  by_cases e : j = i
  · rw [if_pos e, List.take_length, e, ← useF_step h hi hc]; simp
  · rw [if_neg e]
    congr 1
    rw [decide_eq_decide]
    omega
def UsRel (w1 : World) (L : List Lv) (c : Nat) (o m : Value) (wr : World) : Prop :=
  ∃ k : Nat, k ≤ L.length ∧ m = .int .i64 k ∧ Below w1.heap.size w1 wr ∧ Blk wr w1.heap.size 4 (bools (rowB L.length (fun j => decide (j < k) && useF L c j))) ∧ wr.ownsRow (w1.heap.size + 1) 3 1 o (selK (useF L c) L k).length (rowOf encI1 (selK (useF L c) L k))
def UpRel (w1 : World) (L : List Lv) (c i px : Nat) (cs : Array Value) (o m : Value) (wr : World) : Prop :=
  ∃ k : Nat, k ≤ (L.getD i lv0).parts.length ∧ m = .int .i64 k ∧ Below w1.heap.size w1 wr ∧ Blk wr w1.heap.size 4 (bools (rowB L.length (usR L c i k))) ∧ wr.ownsRow (w1.heap.size + 1) 3 1 o (selK (useF L c) L i).length (rowOf encI1 (selK (useF L c) L i)) ∧ Blk wr px 33 cs
set_option maxRecDepth 100000 in
set_option maxHeartbeats 8000000 in
theorem uses_any {w : World} {v : Value} {L : List Lv} (h : LotsIn w v L) (id : Int) (hid : (Lit.int .i64 id).wf = true) : Calls Try.prog 21 #[v, .int .i64 id] w (origOut w (lefE L id) (useV L id)) := by
  have hS : useV L id = if lefE L id = 0 then useL L (ixL L id) else [] := rfl
  have hE : lefE L id = if chkL L ≠ 0 then chkL L else if kn L L.length id = none then 7 else 0 := rfl
  obtain ⟨oa, cap, hv, p1, p2, _, hp5⟩ := h.row.at_
  subst hv
  unfold maxLen at p2
  have HP := Lib.hid hp5
  clear hp5
  have hfb := fun h0 => find_bad h id h0
  have hfa := fun h0 => find_any h id hid h0
  generalize lefE L id = OE at *
  generalize useV L id = OS at *
  by_cases h0 : chkL L = 0
  case neg =>
    have h0' : (chkL L != 0) = true := by simpa using h0
    have hf := hfb h0
    rw [if_pos h0] at hE
    rw [hE, if_neg h0] at hS
    rw [hE, hS]
    clear hE hS hfb hfa h0
    generalize chkL L = E at *
    go_enter Try.func21, Try.ntmps21
    go_wp2_with fail
    refine hf.mono ?_
    rintro e w1 ⟨rfl, hb1⟩
    go_wp2_with fail
    refine bodyPost_ret (v := .tuple #[.slice none 0 0, .int .i64 E]) (by simp only [results, Try.results21]; go_simp; first | done | rfl) rfl ?_
    exact ⟨_, rfl, .nil _ _ _, hb1⟩
  have hf := hfa h0
  rw [if_neg (by simpa using h0)] at hE
  obtain ⟨ok1, ok2, ok3, ok4⟩ := chkL_ok h0
  have HOK := Lib.hid h0
  have HFA := Lib.hid h
  clear hfb hfa h0 ok2 ok3 ok4
  cases hk : kn L L.length id with
  | none =>
    rw [if_pos hk] at hE
    rw [hE, if_neg (by decide)] at hS
    rw [hE, hS]
    unfold findOut findE at hf
    rw [hk] at hf
    clear hE hS hk
    go_enter Try.func21, Try.ntmps21
    go_wp2_with fail
    refine hf.mono ?_
    rintro e w1 ⟨b, n, s, rfl, hm, hb1⟩
    go_wp2_with fail
    refine bodyPost_ret (v := .tuple #[.slice none 0 0, .int .i64 7]) (by simp only [results, Try.results21]; go_simp; first | done | rfl) rfl ?_
    exact ⟨_, rfl, .nil _ _ _, hb1⟩
  | some i =>
    obtain ⟨j, hj, rfl, hjid⟩ := kn_at hk
    have hjx : ixL L id = j := by unfold ixL; rw [hk]; simp
    rw [if_neg (by rw [hk]; simp)] at hE
    rw [hE, if_pos rfl, hjx] at hS
    rw [hE]
    unfold findOut findE at hf
    rw [hk] at hf
    dsimp only at hf
    have HS := Lib.hid hS
    clear hk hjid hE hS hjx
    have hji : (j : Int) < L.length := by omega
    have hj0 : (0 : Int) ≤ j := by omega
    obtain ⟨ti, ii, iz, isi, iby⟩ := info_of (P := Try.prog) (t := 4) (z := .bool false) (size := 1) (bytes := 1) (by kernel_rfl)
    obtain ⟨tj, ji, jz, jsi, jby⟩ := info_of (P := Try.prog) (t := 3) (z := .int .i64 0) (size := 1) (bytes := 8) (by kernel_rfl)
    clear h
    go_enter Try.func21, Try.ntmps21
    go_wp2_with fail
    refine hf.mono ?_
    rintro e w1 ⟨b, n, s, rfl, hm, hb1⟩
    have hz1 := hb1.size
    clear hf
    go_wp2_with (at_make; go_loud (refine wpList_make_row _ rfl _ _ 65 rfl 4 ti (.bool false) Try.underlying65 ii iz isi (by rfl) .i64 .i64 L.length rfl rfl (by rw [iby]; omega) (by omega) ?_))
    rw [bools_made, rowB_zero]
    go_wp2_with fail
    have HM := Lib.hid hm
    clear hm
    go_loopw [10, 31] (fun o m wr => UsRel w1 L j o m wr) (fun _ m _ => (L.length - intOf m).toNat)
    case atStart =>
      refine ⟨0, Nat.zero_le _, rfl, by repeat (first | (with_reducible exact Below.refl _ _) | (with_reducible assumption) | (with_reducible refine Below.drew ?_) | ((with_reducible refine Below.alloc ?_ ?_ _); rotate_left; (first | (with_reducible exact Nat.zero_le _) | (with_reducible exact Nat.le_refl _) | omega | (dsimp only; omega) | (simp only [World.size_alloc, World.size_setCell, World.size_drew]; omega))) | ((with_reducible refine Below.setCell ?_ ?_ _); rotate_left; (first | (with_reducible exact Nat.zero_le _) | (with_reducible exact Nat.le_refl _) | omega | (dsimp only; omega) | (simp only [World.size_alloc, World.size_setCell, World.size_drew]; omega)))), ?_, ⟨by simp [rowOf, selK], .inl ⟨rfl, rfl⟩⟩⟩
      have := Blk.new w1 4 (bools (rowB L.length (fun _ => false)))
      rwa [rowB_congr (U := fun i => decide (i < 0) && useF L j i) (fun i _ => by simp)] at this
    case round =>
      obtain ⟨k, hk, rfl, hbr, BG, own⟩ := hrel
      have hsz := hbr.size
      have hball := hb1.trans (hbr.mono hz1)
      by_cases hkl : k < L.length
      · have hki : (k : Int) < L.length := by omega
        have hk0 : (0 : Int) ≤ k := by omega
        have hx := getD_of (d := lv0) hkl
        have hxm := List.mem_of_getElem? hx
        obtain ⟨ob, oo, rfl, hoz, hoc⟩ := HP.out (by rintro rfl; simp at hkl)
        have ec := hoc k _ hx
        have q : ∀ j, wr.cell? ⟨ob, j, none⟩ = w.cell? ⟨ob, j, none⟩ := fun j => hball.cell (p := ⟨ob, j, none⟩) hoz
        have hpr := HFA.out.part _ hxm
        have hpl := HFA.out.lot _ hxm
        have hpi := fun p hp => ixL_part HOK.out hkl (p := p) hp
        have hsk := selK_succ (useF L j) L k
        have hsl := selK_len (useF L j) L k
        have hpk : (pk L k).length = (L.getD k lv0).parts.length := by simp [pk]
        clear hx hxm hoc
        obtain ⟨X, hX⟩ : ∃ X, X = L.getD k lv0 := ⟨_, rfl⟩
        rw [← hX] at ec hpr hpl hpi hsk hpk
        have e0 : World.cell? wr ⟨ob, oo + k * 5, none⟩ = some (.int .i64 X.id) := (q _).trans (ec 0 (by omega))
        have e1 : World.cell? wr ⟨ob, oo + k * 5 + 1, none⟩ = some (.int .i64 X.mat) := (q _).trans (ec 1 (by omega))
        have e2 : World.cell? wr ⟨ob, oo + k * 5 + 2, none⟩ = some (.int .i64 X.lo) := (q _).trans (ec 2 (by omega))
        have e3 : World.cell? wr ⟨ob, oo + k * 5 + 3, none⟩ = some (.int .i64 X.hi) := (q _).trans (ec 3 (by omega))
        have e4 : World.cell? wr ⟨ob, oo + k * 5 + 4, none⟩ = some (X.pv) := (q _).trans (ec 4 (by omega))
        clear ec q
        have HX := Lib.hid hX
        have HPL := Lib.hid hpl
        have HPI := Lib.hid hpi
        have HSK := Lib.hid hsk
        have HPK := Lib.hid hpk
        clear hX hpl hpi hsk hpk
        obtain ⟨xi, xm, xl, xh, xv, ps⟩ := X
        dsimp only at *
        obtain ⟨pa, pc, hpv, r1, r2, _, hr5⟩ := hpr.at_
        subst hpv
        unfold maxLen at r2
        have HR := Lib.hid hr5
        clear hpr hr5
        have hbx : Below wr.heap.size wr (wr.alloc (.cells #[.int .i64 xi, .int .i64 xm, .int .i64 xl, .int .i64 xh, .slice pa ps.length pc] 33)) := by repeat (first | (with_reducible exact Below.refl _ _) | (with_reducible assumption) | (with_reducible refine Below.drew ?_) | ((with_reducible refine Below.alloc ?_ ?_ _); rotate_left; (first | (with_reducible exact Nat.zero_le _) | (with_reducible exact Nat.le_refl _) | omega | (dsimp only; omega) | (simp only [World.size_alloc, World.size_setCell, World.size_drew]; omega))) | ((with_reducible refine Below.setCell ?_ ?_ _); rotate_left; (first | (with_reducible exact Nat.zero_le _) | (with_reducible exact Nat.le_refl _) | omega | (dsimp only; omega) | (simp only [World.size_alloc, World.size_setCell, World.size_drew]; omega))))
        have BX := Blk.new wr 33 #[.int .i64 xi, .int .i64 xm, .int .i64 xl, .int .i64 xh, .slice pa ps.length pc]
        have hbz := hbr.trans (hbx.mono hsz)
        have own1 := ownsRow_step own hbx
        have BG1 := BG.step hbx
        have hne : wr.heap.size ≠ w1.heap.size := by have := BG.lt; omega
        have HB := Lib.hid hbz
        have HO := Lib.hid own1
        have HG := Lib.hid BG1
        clear own BG own1 BG1
        go_wp2_with fail
        clear e0 e1 e2 e3 e4
        go_loopw [39] (fun m wq => UpRel w1 L j k wr.heap.size #[.int .i64 xi, .int .i64 xm, .int .i64 xl, .int .i64 xh, .slice pa ps.length pc] u10 m wq) (fun m _ => (ps.length - intOf m).toNat)
        case atStart =>
          refine ⟨0, Nat.zero_le _, rfl, HB.out, ?_, HO.out, BX⟩
          have := HG.out
          rwa [← rowB_congr (T := usR L j k 0) (fun i _ => usR_zero L j k i)] at this
        case round =>
          obtain ⟨m, hm, rfl, hbr2, BG, own, BX⟩ := hrel
          rw [← HX.out] at hm
          dsimp only at hm
          have hsz2 := hbr2.size
          have hball2 := hb1.trans (hbr2.mono hz1)
          have lG := BG.lt
          have fG := BG.free
          have lX := BX.lt
          by_cases hml : m < ps.length
          · have hmi : (m : Int) < ps.length := by omega
            have hm0 : (0 : Int) ≤ m := by omega
            have hx := getD_of (d := pt0) hml
            have hxm := List.mem_of_getElem? hx
            obtain ⟨pb, po, rfl, hpz, hpc⟩ := HR.out (by rintro rfl; simp at hml)
            have ec := hpc m _ hx
            have q : ∀ j, wr.cell? ⟨pb, j, none⟩ = w.cell? ⟨pb, j, none⟩ := fun j => hball2.cell (p := ⟨pb, j, none⟩) hpz
            have hpw := HPL.out _ hxm
            obtain ⟨x1, x2, x3⟩ := HPI.out _ hxm
            have hkk : (pk L k)[m]? = some (ixL L (ps.getD m pt0).lot) := by unfold pk; rw [← HX.out, List.getElem?_map]; dsimp only; rw [hx]; rfl
            have hsv := fun i => usR_succ (c := j) hkk i
            have hqv : usR L j k m (ixL L (ps.getD m pt0).lot) = useF L j (ixL L (ps.getD m pt0).lot) := by unfold usR; rw [if_neg (by omega), decide_eq_true x1, Bool.true_and]
            have g1 : wr.cell? ⟨w1.heap.size, k, none⟩ = some (.bool (usR L j k m k)) := BG.getb (rowB_get _ hkl)
            have g2 : wr.cell? ⟨w1.heap.size, ixL L (ps.getD m pt0).lot, none⟩ = some (.bool (useF L j (ixL L (ps.getD m pt0).lot))) := BG.getb (by rw [rowB_get _ (by omega), hqv])
            clear hx hxm hpc hkk x3 hqv
            generalize ps.getD m pt0 = p at *
            have e0 : World.cell? wr ⟨pb, po + m * 3, none⟩ = some (.int .i64 p.lot) := (q _).trans (ec 0 (by omega))
            have e1 : World.cell? wr ⟨pb, po + m * 3 + 1, none⟩ = some (.int .i64 p.lo) := (q _).trans (ec 1 (by omega))
            have e2 : World.cell? wr ⟨pb, po + m * 3 + 2, none⟩ = some (.int .i64 p.hi) := (q _).trans (ec 2 (by omega))
            clear ec q
            obtain ⟨y, pl, ph⟩ := p
            dsimp only at *
            have hgl : ixL L y < L.length := by omega
            generalize ixL L y = G at *
            have hgi : (G : Int) < L.length := by omega
            have hg0 : (0 : Int) ≤ G := by omega
            have hmz := (HM.out.step (hbr2))
            have hbp : Below wr.heap.size wr (wr.alloc (.cells #[.int .i64 y, .int .i64 pl, .int .i64 ph] 35)) := by repeat (first | (with_reducible exact Below.refl _ _) | (with_reducible assumption) | (with_reducible refine Below.drew ?_) | ((with_reducible refine Below.alloc ?_ ?_ _); rotate_left; (first | (with_reducible exact Nat.zero_le _) | (with_reducible exact Nat.le_refl _) | omega | (dsimp only; omega) | (simp only [World.size_alloc, World.size_setCell, World.size_drew]; omega))) | ((with_reducible refine Below.setCell ?_ ?_ _); rotate_left; (first | (with_reducible exact Nat.zero_le _) | (with_reducible exact Nat.le_refl _) | omega | (dsimp only; omega) | (simp only [World.size_alloc, World.size_setCell, World.size_drew]; omega))))
            have hmz2 := hmz.step hbp
            have hlk : (Instr.lookup 54 (.map (some b)) (.int .i64 y) false).run Try.prog (wr.alloc (.cells #[.int .i64 y, .int .i64 pl, .int .i64 ph] 35)) = .ok (.int .i64 G) (wr.alloc (.cells #[.int .i64 y, .int .i64 pl, .int .i64 ph] 35)) := by
              have := hmz2.run_look (e := 3) Try.underlying3 Try.underlying54 0 (zeroI _) y hpw
              rw [x2] at this
              exact this
            have HB2 := Lib.hid hbr2
            have HO := Lib.hid own
            have HG := Lib.hid BG
            have HX1 := Lib.hid BX
            have HSV := Lib.hid hsv
            clear own BG BX hsv hbr2 hmz hmz2 hbp
            generalize hUI : usR L j k m k = UI at *
            generalize hUG : useF L j G = UG at *
            cases UI with
            | true =>
              clear hUI hUG
              go_wp2_with fail
              go_roundw
              skip
              case rel =>
                have BGs := (HG.out.setb k true).alloc (.cells #[.int .i64 y, .int .i64 pl, .int .i64 ph] 35)
                rw [rowB_set] at BGs
                refine ⟨m + 1, by rw [← HX.out]; exact hml, by simp, (HB2.out.setCell (p := ⟨w1.heap.size, k, none⟩) (Nat.le_refl _) (.bool true)).alloc (by simpa using HB2.out.size) _, ?_, ownsRow_step (own_far HO.out (Nat.lt_succ_self _) _) ((Below.refl _ _).alloc (Nat.le_refl _) _), (HX1.out.far hne _).alloc _⟩
                rwa [← rowB_congr (T := usR L j k (m + 1)) (fun i _ => by rw [HSV.out i]; first | simp [*] | (by_cases e : i = k <;> simp [*]))] at BGs
              case measure => simp [intOf]; omega
            | false =>
              by_cases hGj : G = j
              · have hGj' : ((G : Int) == (j : Int)) = true := by simp [hGj]
                clear hUI hUG
                go_wp2_with fail
                go_roundw
                skip
                case rel =>
                  have BGs := (HG.out.setb k true).alloc (.cells #[.int .i64 y, .int .i64 pl, .int .i64 ph] 35)
                  rw [rowB_set] at BGs
                  refine ⟨m + 1, by rw [← HX.out]; exact hml, by simp, (HB2.out.setCell (p := ⟨w1.heap.size, k, none⟩) (Nat.le_refl _) (.bool true)).alloc (by simpa using HB2.out.size) _, ?_, ownsRow_step (own_far HO.out (Nat.lt_succ_self _) _) ((Below.refl _ _).alloc (Nat.le_refl _) _), (HX1.out.far hne _).alloc _⟩
                  rwa [← rowB_congr (T := usR L j k (m + 1)) (fun i _ => by rw [HSV.out i]; first | simp [*] | (by_cases e : i = k <;> simp [*]))] at BGs
                case measure => simp [intOf]; omega
              · have hGj' : ((G : Int) == (j : Int)) = false := by simp; omega
                clear hUI hUG
                go_wp2_with fail
                go_roundw
                skip
                case rel =>
                  have BGs := (HG.out.setb k UG).alloc (.cells #[.int .i64 y, .int .i64 pl, .int .i64 ph] 35)
                  rw [rowB_set] at BGs
                  refine ⟨m + 1, by rw [← HX.out]; exact hml, by simp, (HB2.out.setCell (p := ⟨w1.heap.size, k, none⟩) (Nat.le_refl _) (.bool UG)).alloc (by simpa using HB2.out.size) _, ?_, ownsRow_step (own_far HO.out (Nat.lt_succ_self _) _) ((Below.refl _ _).alloc (Nat.le_refl _) _), (HX1.out.far hne _).alloc _⟩
                  rwa [← rowB_congr (T := usR L j k (m + 1)) (fun i _ => by rw [HSV.out i]; first | simp [*] | (by_cases e : i = k <;> simp [*]))] at BGs
                case measure => simp [intOf]; omega
          · obtain rfl : m = ps.length := by omega
            have hus : rowB L.length (usR L j k ps.length) = rowB L.length (fun i => decide (i < k + 1) && useF L j i) := rowB_congr fun i hi => by
              rw [show ps.length = (pk L k).length from HPK.out.symm]; exact usR_all HOK.out hkl hj i
            rw [hus] at BG
            have g1 : wr.cell? ⟨w1.heap.size, k, none⟩ = some (.bool (useF L j k)) := BG.getb (by rw [rowB_get _ hkl]; simp)
            have hsk := HSK.out
            have cX := BX.cell
            have HGG := Lib.hid BG
            have HB2 := Lib.hid hbr2
            have HO := Lib.hid own
            clear hus BX BG
            generalize hUK : useF L j k = UK at *
            clear hUK
            cases UK with
            | false =>
              rw [if_neg (by simp), List.append_nil] at hsk
              have HSK2 := Lib.hid hsk
              clear hsk own hbr2
              go_wp2_with fail
              go_roundw
              case rel => exact ⟨k + 1, hkl, by simp, HB2.out, HGG.out, by rw [HSK2.out]; exact HO.out⟩
              case measure => simp [intOf]; omega
            | true =>
              rw [if_pos rfl] at hsk
              have HSK2 := Lib.hid hsk
              have hb2 : Below wr.heap.size wr (wr.alloc (.cells #[.int .i64 xi] 3)) := by repeat (first | (with_reducible exact Below.refl _ _) | (with_reducible assumption) | (with_reducible refine Below.drew ?_) | ((with_reducible refine Below.alloc ?_ ?_ _); rotate_left; (first | (with_reducible exact Nat.zero_le _) | (with_reducible exact Nat.le_refl _) | omega | (dsimp only; omega) | (simp only [World.size_alloc, World.size_setCell, World.size_drew]; omega))) | ((with_reducible refine Below.setCell ?_ ?_ _); rotate_left; (first | (with_reducible exact Nat.zero_le _) | (with_reducible exact Nat.le_refl _) | omega | (dsimp only; omega) | (simp only [World.size_alloc, World.size_setCell, World.size_drew]; omega))))
              have BK := Blk.new wr 3 #[.int .i64 xi]
              have own2 := ownsRow_step own hb2
              have hbz2 := hbr2.trans (hb2.mono hsz2)
              have BG2 := HGG.out.step hb2
              have HG2 := Lib.hid BG2
              clear hsk own hbr2 BG2
              go_wp2_with (at_builtin; go_loud (refine wpList_append_any _ rfl _ _ _ rfl (w1.heap.size + 1) 3 tj _ 1 8 Try.underlying40 ji jz jsi jby rfl (by omega) _ (selK (useF L j) L k).length _ rfl own2 _ 1 (encI1 xi) rfl (Src.of_blk BK 1) rfl (fun u hu => oneI1 [xi] u (by simpa [rowOf] using hu)) (by simp only [maxLen]; omega) (by omega) (by simp only [World.size_alloc]; omega) ?_); intro v6 w6 own6 hg6 hat6)
              have hb7 := Below.grown hbz2 hg6 hbz2.size (fun i hi => by have := own_ge' own2 i hi; omega)
              have hgr : some w1.heap.size ≠ Value.ownBlock u10 := fun e => by have := own_ge' own2 _ e.symm; omega
              have own6' : w6.ownsRow (w1.heap.size + 1) 3 1 v6 (selK (useF L j) L k ++ [xi]).length (rowOf encI1 (selK (useF L j) L k ++ [xi])) := by
                rw [rowOf_append, List.length_append]
                simpa [rowOf] using own6
              have BG7 := HG2.out.grown hg6 hgr
              clear own6 own2 hg6 hat6
              go_roundw
              case rel => exact ⟨k + 1, hkl, by simp, hb7, BG7, by rw [HSK2.out]; exact own6'⟩
              case measure => simp [intOf]; omega
      · obtain rfl : k = L.length := by omega
        go_wp2_with fail
        refine bodyPost_ret (v := .tuple #[u10, .int .i64 0]) (by simp only [results, Try.results21]; go_simp; first | done | rfl) rfl ?_
        refine ⟨_, rfl, ?_, hball⟩
        rw [HS.out]
        exact RowIn.of_own encI1_len own

end Go.Proofs.Ytpafcdigcpbbeaa
