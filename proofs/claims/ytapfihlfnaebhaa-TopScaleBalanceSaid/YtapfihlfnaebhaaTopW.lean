/- The walk of TopScaleBalance. -/
import Derived.Test.YtapfihlfnaebhaaTopA
import Derived.Test.YtapfihlfnaebhaaBalK
import Derived.Test.YtapfihlfnaebhaaBalL
namespace Go.Proofs.Ytapfihlfnaebhaa
set_option linter.unusedVariables false
set_option linter.unusedSimpArgs false
open Go.RowKit

def encI (x : Int) : List Value := [.int .i64 x]
def encW (x : Wd) : List Value := [.int .i64 x.frm, .int .i64 x.to, .int .i64 x.mass, .int .i64 x.shown]
theorem encI_len (e : Int) : (encI e).length = 1 := rfl
theorem oneI (m : List Int) : ∀ u ∈ rowOf encI m, u.oneCell' = true := by
  intro u hu
  simp only [rowOf, List.mem_flatMap] at hu
  obtain ⟨e, _, he⟩ := hu
  simp [encI] at he
  rcases he with rfl
  rfl
theorem oneR (m : List Tr) : ∀ u ∈ rowOf encR m, u.oneCell' = true := by
  intro u hu
  simp only [rowOf, List.mem_flatMap] at hu
  obtain ⟨e, _, he⟩ := hu
  simp [encR] at he
  rcases he with rfl | rfl | rfl | rfl <;> rfl

def T1Rel (wa : World) (o : List Int) (v9 v11 i : Value) (wr : World) : Prop := ∃ k : Nat, k ≤ o.length ∧ i = .int .i64 k ∧ (∀ m ∈ o.take k, 0 ≤ m ∧ m ≤ 1073741824) ∧ Below wa.heap.size wa wr ∧
  wr.ownsRow wa.heap.size 32 2 v9 k (rowOf encP ((o.take k).map fiAt)) ∧ wr.ownsRow wa.heap.size 3 1 v11 k (rowOf encI (o.take k)) ∧ Apart v9 v11
def T2Rel (wa : World) (C : Wd → Bool) (M : Wd → Tr) (N : Nat) (f9 : List Value) (o : List Int) (v9 : Value) (l : List Wd) (v10 v11 i : Value) (wr : World) : Prop := ∃ k : Nat, k ≤ l.length ∧ i = .int .i64 k ∧ (∀ x ∈ l.take k, C x = true) ∧ Below wa.heap.size wa wr ∧
  wr.ownsRow wa.heap.size 32 2 v9 N f9 ∧ wr.ownsRow wa.heap.size 39 4 v10 k (rowOf encR ((l.take k).map M)) ∧ wr.ownsRow wa.heap.size 3 1 v11 (N + k) (rowOf encI (o ++ (l.take k).map Wd.mass)) ∧ Apart v9 v10 ∧ Apart v9 v11 ∧ Apart v10 v11
theorem mem_take_succ {α : Type} {p : α → Prop} {l : List α} {k : Nat} {x : α} (hx : l[k]? = some x) (h : ∀ m ∈ l.take k, p m) (hp : p x) : ∀ m ∈ l.take (k + 1), p m := by
  intro m hm
  rw [List.take_add_one, hx] at hm
  rcases List.mem_append.1 hm with hm | hm
  · exact h m hm
  · simp at hm; rw [hm]; exact hp

set_option maxRecDepth 100000 in
set_option maxHeartbeats 8000000 in
theorem law_top {w : World} {vo vl : Value} (sa sb sc sd se sf t : Int) {o : List Int} {l : List Wd} (ho : RowIn w vo 1 encI o) (hl : RowIn w vl 4 encW l) :
    Calls Try.prog 3 #[.agg #[.int .i64 sa, .int .i64 sb, .int .i64 sc, .int .i64 sd, .int .i64 se, .int .i64 sf], .int .i64 t, vo, vl] w fun e w' => e = .returned (.bool true) ∧ Below w.heap.size w w' := by
  have hb : Below w.heap.size w (w.alloc (.cells #[.int .i64 sa, .int .i64 sb, .int .i64 sc, .int .i64 sd, .int .i64 se, .int .i64 sf] 23)) := by repeat (first | (with_reducible exact Below.refl _ _) | (with_reducible assumption) | (with_reducible refine Below.drew ?_) | ((with_reducible refine Below.alloc ?_ ?_ _); rotate_left; (first | (with_reducible exact Nat.zero_le _) | (with_reducible exact Nat.le_refl _) | omega | (dsimp only; omega) | (simp only [World.size_alloc, World.size_setCell, World.size_drew]; omega))) | ((with_reducible refine Below.setCell ?_ ?_ _); rotate_left; (first | (with_reducible exact Nat.zero_le _) | (with_reducible exact Nat.le_refl _) | omega | (dsimp only; omega) | (simp only [World.size_alloc, World.size_setCell, World.size_drew]; omega))))
  have BS := Blk.new w 23 #[.int .i64 sa, .int .i64 sb, .int .i64 sc, .int .i64 sd, .int .i64 se, .int .i64 sf]
  have hck := fun w => rcheck_any sa sb sc sd se sf w
  obtain ⟨la, cb, rfl, l1, l2, _, hl5⟩ := hl.at_
  obtain ⟨oa, ca, rfl, o1, o2, _, ho5⟩ := ho.at_
  have HL := Lib.hid hl5
  have HO := Lib.hid ho5
  clear hl5 ho5 ho hl l1 l2 o1 o2
  by_cases h0 : chk sa sb sc sd se sf = 0
  · rw [h0] at hck
    clear h0
    by_cases h1 : (o.length : Int) < 1 ∨ (¬ (o.length : Int) < 1 ∧ (o.length : Int) > 6) ∨ (¬ (o.length : Int) < 1 ∧ ¬ (o.length : Int) > 6 ∧ (l.length : Int) > 30)
    · rcases h1 with h1 | ⟨h1, h2⟩ | ⟨h1, h2, h3⟩
      all_goals (
        go_enter Try.func3, Try.ntmps3
        have cx := BS.cell
        have lx := BS.lt
        go_wp2_with fail
        refine (hck _).mono ?_
        rintro e w1 ⟨rfl, hb1⟩
        replace hb := hb.trans (hb1.mono hb.size)
        go_wp2_with fail
        refine (awake28_any _).mono ?_
        rintro e w9 ⟨rfl, hb9⟩
        go_wp2_with fail
        go_ret
        exact ⟨rfl, hb.trans (hb9.mono hb.size)⟩)
    have g1 : ¬ (o.length : Int) < 1 := by omega
    have g2 : ¬ (o.length : Int) > 6 := by omega
    have g3 : ¬ (l.length : Int) > 30 := by omega
    clear h1
    obtain ⟨ti, hi, hz, hsi, hby⟩ := info_of (P := Try.prog) (t := 32) (z := .agg #[.int .i64 0, .int .i64 0]) (size := 2) (bytes := 16) (by kernel_rfl)
    obtain ⟨tj, ji, jz, jsi, jby⟩ := info_of (P := Try.prog) (t := 3) (z := .int .i64 0) (size := 1) (bytes := 8) (by kernel_rfl)
    obtain ⟨tk, ki, kz, ksi, kby⟩ := info_of (P := Try.prog) (t := 39) (z := .agg #[.int .i64 0, .int .i64 0, .int .i64 0, .int .i64 0]) (size := 4) (bytes := 32) (by kernel_rfl)
    have HC : ∀ x : Wd, cld sa sb sc sd se sf x.mass x.shown t = true → trn sa sb sc sd se sf x.shown t = 0 ∧ 0 ≤ trlo sa sb sc sd se sf x.shown t ∧ trlo sa sb sc sd se sf x.shown t ≤ x.mass ∧ x.mass ≤ trhi sa sb sc sd se sf x.shown t ∧ trhi sa sb sc sd se sf x.shown t ≤ 1073741824 := fun x h => mv_ok h
    have HCM : ∀ x : Wd, cld sa sb sc sd se sf x.mass x.shown t = true → 0 ≤ x.mass ∧ x.mass ≤ 1073741824 := fun x h => by have := mv_ok h; omega
    have HCh := Lib.hid HC
    have HLAW := Lib.hid fun h1 h2 h3 h4 => top_law (a := sa) (b := sb) (c := sc) (d := sd) (e := se) (f := sf) (t := t) (o := o) (l := l) h1 h2 h3 h4
    clear HC HCM
    have hrc := fun m n w => rcould_any sa sb sc sd se sf m n t w
    have htr := fun n w => true_any sa sb sc sd se sf n t w
    go_enter Try.func3, Try.ntmps3
    have cx := BS.cell
    have lx := BS.lt
    go_wp2_with fail
    clear cx lx
    refine (hck _).mono ?_
    rintro e wa ⟨rfl, hb1⟩
    replace BS := BS.step hb1
    replace hb := hb.trans (hb1.mono hb.size)
    clear hb1 hck
    go_wp2_with fail
    go_loopw [9, 11, 41] (fun v9 v11 i wr => T1Rel wa o v9 v11 i wr) (fun _ _ i _ => (o.length - intOf i).toNat)
    case atStart => exact ⟨0, Nat.zero_le _, rfl, by simp, Below.refl _ _, ⟨by simp [rowOf], .inl ⟨rfl, rfl⟩⟩, ⟨by simp [rowOf], .inl ⟨rfl, rfl⟩⟩, Apart.nil_left _⟩
    case round =>
      obtain ⟨k, hk, rfl, hall, hbr, own9, own11, hap⟩ := hrel
      have hsz := hbr.size
      by_cases hlt : k < o.length
      · have hw0 := hb.trans (hbr.mono hb.size)
        have hx : o[k]? = some (o.getD k 0) := getD_i hlt
        have hto9 : (o.take (k + 1)).map fiAt = (o.take k).map fiAt ++ [fiAt (o.getD k 0)] := by rw [List.take_add_one, hx]; simp
        have hto11 : o.take (k + 1) = o.take k ++ [o.getD k 0] := by rw [List.take_add_one, hx]; simp
        obtain ⟨ob, oo, hoo, hoz, hoc⟩ := HO.out (by rintro rfl; simp at hx)
        subst hoo
        have hkl : (k : Int) < o.length := by omega
        have hk0 : (0 : Int) ≤ k := by omega
        have em : World.cell? wr ⟨ob, oo + k, none⟩ = some (.int .i64 (o.getD k 0)) := by
          have := hoc k _ hx 0 (by omega)
          rw [Nat.mul_one, Nat.add_zero] at this
          exact (hw0.cell (p := ⟨ob, oo + k, none⟩) hoz).trans this
        have HALL := Lib.hid (fun hp => mem_take_succ (p := fun m => 0 ≤ m ∧ m ≤ 1073741824) hx hall hp)
        have HT9 := Lib.hid hto9
        have HT11 := Lib.hid hto11
        clear hto9 hto11 hoc hx hall
        generalize o.getD k 0 = m at *
        rcases (show m < 0 ∨ (¬ m < 0 ∧ m > 1073741824) ∨ (¬ m < 0 ∧ ¬ m > 1073741824) by omega) with d1 | ⟨d1, d2⟩ | ⟨d1, d2⟩
        · replace hb := hw0
          go_wp2_with fail
          refine (awake28_any _).mono ?_
          rintro e w9 ⟨rfl, hb9⟩
          go_wp2_with fail
          go_ret
          exact ⟨rfl, hb.trans (hb9.mono hb.size)⟩
        · replace hb := hw0
          go_wp2_with fail
          refine (awake28_any _).mono ?_
          rintro e w9 ⟨rfl, hb9⟩
          go_wp2_with fail
          go_ret
          exact ⟨rfl, hb.trans (hb9.mono hb.size)⟩
        · have hbz := hbr.alloc hsz (.cells #[.int .i64 m, .int .i64 m] 32)
          have hbv := Below.alloc (Below.refl wr.heap.size wr) (Nat.le_refl _) (.cells #[.int .i64 m, .int .i64 m] 32)
          have BN := Blk.new wr 32 #[.int .i64 m, .int .i64 m]
          have own11x := ownsRow_step own11 hbv
          go_wp2_with (first | (at_builtin; refine wpList_append_any _ rfl _ _ _ rfl wa.heap.size 32 ti _ 2 16 Try.underlying29 hi hz hsi hby rfl (by omega) _ k _ rfl (ownsRow_step own9 hbv) _ 1 (encP (fiAt m)) rfl (Src.of_blk BN 1) rfl (fun u hu => oneP [fiAt m] u (by simpa [rowOf] using hu)) (by simp only [maxLen]; omega) (by omega) (by first | omega | (simp only [World.size_alloc] <;> omega)) ?_; intro v5 w5 own5 hg5 hat5; have hb5 : Below wa.heap.size wa w5 := Below.grown hbz hg5 (by first | omega | (simp only [World.size_alloc] <;> omega)) (own_ge' own9); have own11y := own_grown own11x hg5 hap.symm; have hap5 : Apart u11 v5 := Apart.grow hap.symm own11x hat5; have hbv5 := Below.alloc (Below.refl w5.heap.size w5) (Nat.le_refl _) (.cells #[.int .i64 m] 3); have BN5 := Blk.new w5 3 #[.int .i64 m]; have own11z := ownsRow_step own11y hbv5; have own5z := ownsRow_step own5 hbv5; have hbz5 := hb5.alloc hb5.size (.cells #[.int .i64 m] 3); have hs5 := hb5.size) | (at_builtin; refine wpList_append_any _ rfl _ _ _ rfl wa.heap.size 3 tj _ 1 8 Try.underlying24 ji jz jsi jby rfl (by omega) _ k _ rfl own11z _ 1 (encI m) rfl (Src.of_blk BN5 1) rfl (fun u hu => oneI [m] u (by simpa [rowOf] using hu)) (by simp only [maxLen]; omega) (by omega) (by first | omega | (simp only [World.size_alloc] <;> omega)) ?_; intro v6 w6 own6 hg6 hat6))
          have hb6 : Below wa.heap.size wa w6 := Below.grown hbz5 hg6 (by first | omega | (simp only [World.size_alloc] <;> omega)) (own_ge' own11)
          have own9' := own_grown own5z hg6 hap5.symm
          have hap6 : Apart v5 v6 := Apart.grow hap5.symm own5z hat6
          have own9f : w6.ownsRow wa.heap.size 32 2 v5 (k + 1) (rowOf encP ((o.take (k + 1)).map fiAt)) := by
            rw [HT9.out, rowOf_append]
            simpa [rowOf] using own9'
          have own11f : w6.ownsRow wa.heap.size 3 1 v6 (k + 1) (rowOf encI (o.take (k + 1))) := by
            rw [HT11.out, rowOf_append]
            simpa [rowOf] using own6
          clear own9 own11 own11x own5 own11y own11z own5z own6 own9' hg5 hg6 hat5 hat6 hbz hbv hbz5 hbv5 BN BN5 em hb5 hap hap5
          go_roundw
          case rel => exact ⟨k + 1, hlt, by simp, HALL.out ⟨by omega, by omega⟩, hb6, own9f, own11f, hap6⟩
          case measure => simp [intOf]; omega
      · obtain rfl : k = o.length := by omega
        rw [List.take_length] at hall own9 own11
        have HALL1 := Lib.hid hall
        clear hall hlt hk
        have own11s : wr.ownsRow wa.heap.size 3 1 u11 (o.length + 0) (rowOf encI (o ++ (l.take 0).map Wd.mass)) := by simpa using own11
        go_wp2_with fail
        go_loopw [10, 11, 65] (fun v10 v11 i wz => T2Rel wa (fun x => cld sa sb sc sd se sf x.mass x.shown t) (mvAt sa sb sc sd se sf t) o.length (rowOf encP (o.map fiAt)) o u9 l v10 v11 i wz) (fun _ _ i _ => (l.length - intOf i).toNat)
        case atStart => exact ⟨0, Nat.zero_le _, rfl, by simp, hbr, own9, ⟨by simp [rowOf], .inl ⟨rfl, rfl⟩⟩, own11s, Apart.nil_right _, hap, Apart.nil_left _⟩
        case round =>
          clear hbr own9 own11 own11s hap hsz
          obtain ⟨k, hk, rfl, hall, hbr, own9, own10, own11, hap1, hap2, hap3⟩ := hrel
          have hsz := hbr.size
          have hw0 := hb.trans (hbr.mono hb.size)
          by_cases hlt : k < l.length
          · obtain ⟨x, hx⟩ : ∃ x, l[k]? = some x := ⟨_, List.getElem?_eq_getElem hlt⟩
            have hto10 : (l.take (k + 1)).map (mvAt sa sb sc sd se sf t) = (l.take k).map (mvAt sa sb sc sd se sf t) ++ [mvAt sa sb sc sd se sf t x] := by rw [List.take_add_one, hx]; simp
            have hto11 : o ++ (l.take (k + 1)).map Wd.mass = (o ++ (l.take k).map Wd.mass) ++ [x.mass] := by rw [List.take_add_one, hx]; simp
            obtain ⟨lb, lo, hlo, hlz, hlc⟩ := HL.out (by rintro rfl; simp at hx)
            subst hlo
            have hkl : (k : Int) < l.length := by omega
            have hk0 : (0 : Int) ≤ k := by omega
            have e0 : World.cell? wr ⟨lb, lo + k * 4, none⟩ = some (.int .i64 x.frm) := (hw0.cell (p := ⟨lb, lo + k * 4, none⟩) hlz).trans (hlc k _ hx 0 (by omega))
            have e1 : World.cell? wr ⟨lb, lo + k * 4 + 1, none⟩ = some (.int .i64 x.to) := (hw0.cell (p := ⟨lb, lo + k * 4 + 1, none⟩) hlz).trans (hlc k _ hx 1 (by omega))
            have e2 : World.cell? wr ⟨lb, lo + k * 4 + 2, none⟩ = some (.int .i64 x.mass) := (hw0.cell (p := ⟨lb, lo + k * 4 + 2, none⟩) hlz).trans (hlc k _ hx 2 (by omega))
            have e3 : World.cell? wr ⟨lb, lo + k * 4 + 3, none⟩ = some (.int .i64 x.shown) := (hw0.cell (p := ⟨lb, lo + k * 4 + 3, none⟩) hlz).trans (hlc k _ hx 3 (by omega))
            have HALL := Lib.hid (fun hp => mem_take_succ (p := fun x : Wd => cld sa sb sc sd se sf x.mass x.shown t = true) hx hall hp)
            have HT10 := Lib.hid hto10
            have HT11 := Lib.hid hto11
            have hq1 := fun w => hrc x.mass x.shown w
            have hq2 := fun w => htr x.shown w
            have hmv := HCh.out x
            have hmE : mvAt sa sb sc sd se sf t x = ⟨x.frm, x.to, ⟨trlo sa sb sc sd se sf x.shown t, trhi sa sb sc sd se sf x.shown t⟩⟩ := rfl
            have HME := Lib.hid hmE
            clear hto10 hto11 hlc hx hall hmE
            have BSr := BS.step hbr
            have z0 : ∀ j, World.cell? wr ⟨w.heap.size, j, none⟩ = #[.int .i64 sa, .int .i64 sb, .int .i64 sc, .int .i64 sd, .int .i64 se, .int .i64 sf][j]? := BSr.cell
            have lz := BSr.lt
            have BX := Blk.new wr 34 #[.int .i64 x.frm, .int .i64 x.to, .int .i64 x.mass, .int .i64 x.shown]
            have hbx := Below.alloc (Below.refl wr.heap.size wr) (Nat.le_refl _) (.cells #[.int .i64 x.frm, .int .i64 x.to, .int .i64 x.mass, .int .i64 x.shown] 34)
            cases hcd : cld sa sb sc sd se sf x.mass x.shown t with
            | false =>
              rw [hcd] at hq1
              clear hcd hmv hq2
              replace hb := hw0.trans (hbx.mono hw0.size)
              rcases (show x.mass < 0 ∨ (¬ x.mass < 0 ∧ x.mass > 1073741824) ∨ (¬ x.mass < 0 ∧ ¬ x.mass > 1073741824) by omega) with d1 | ⟨d1, d2⟩ | ⟨d1, d2⟩
              · go_wp2_with fail
                refine (awake28_any _).mono ?_
                rintro e w9 ⟨rfl, hb9⟩
                go_wp2_with fail
                go_ret
                exact ⟨rfl, hb.trans (hb9.mono hb.size)⟩
              · go_wp2_with fail
                refine (awake28_any _).mono ?_
                rintro e w9 ⟨rfl, hb9⟩
                go_wp2_with fail
                go_ret
                exact ⟨rfl, hb.trans (hb9.mono hb.size)⟩
              · go_wp2_with fail
                refine (hq1 _).mono ?_
                rintro e w3 ⟨rfl, hb3⟩
                replace hb := hb.trans (hb3.mono hb.size)
                go_wp2_with fail
                refine (awake28_any _).mono ?_
                rintro e w9 ⟨rfl, hb9⟩
                go_wp2_with fail
                go_ret
                exact ⟨rfl, hb.trans (hb9.mono hb.size)⟩
            | true =>
              obtain ⟨m1, m2, m3, m4, m5⟩ := hmv hcd
              have HCD := Lib.hid hcd
              rw [hcd] at hq1
              rw [m1] at hq2
              clear hcd hmv m1
              generalize trlo sa sb sc sd se sf x.shown t = p at *
              generalize trhi sa sb sc sd se sf x.shown t = q at *
              obtain ⟨xf, xt, xm, xs⟩ := x
              dsimp only at *
              have d1 : ¬ xm < 0 := by omega
              have d2 : ¬ xm > 1073741824 := by omega
              have d3 : ¬ xm < p := by omega
              have d4 : ¬ xm > q := by omega
              go_wp2_with fail
              refine (hq1 _).mono ?_
              rintro e w3 ⟨rfl, hb3⟩
              replace BX := BX.step hb3
              have hb3w := hbx.trans (hb3.mono hbx.size)
              replace BSr := BSr.step hb3w
              clear e0 e1 e2 e3 z0 lz hbx hb3
              have z0 : ∀ j, World.cell? w3 ⟨w.heap.size, j, none⟩ = #[.int .i64 sa, .int .i64 sb, .int .i64 sc, .int .i64 sd, .int .i64 se, .int .i64 sf][j]? := BSr.cell
              have lz := BSr.lt
              have c2 : World.cell? w3 ⟨wr.heap.size, 2, none⟩ = some (.int .i64 xm) := BX.cell 2
              have c3 : World.cell? w3 ⟨wr.heap.size, 3, none⟩ = some (.int .i64 xs) := BX.cell 3
              have lx := BX.lt
              go_wp2_with fail
              refine (hq2 _).mono ?_
              rintro e w4 ⟨rfl, hb4⟩
              replace BX := BX.step hb4
              have hb4w := hb3w.trans (hb4.mono hb3w.size)
              clear z0 lz c2 c3 lx hb4
              have BT := Blk.new w4 32 #[.int .i64 p, .int .i64 q]
              have hb5w := hb4w.alloc hb4w.size (.cells #[.int .i64 p, .int .i64 q] 32)
              replace BX := BX.alloc (.cells #[.int .i64 p, .int .i64 q] 32)
              have hb6w := hb5w.alloc hb5w.size (.cells #[.int .i64 xf, .int .i64 xt, .int .i64 p, .int .i64 q] 39)
              have BN : Blk ((w4.alloc (.cells #[.int .i64 p, .int .i64 q] 32)).alloc (.cells #[.int .i64 xf, .int .i64 xt, .int .i64 p, .int .i64 q] 39)) (w4.heap.size + 1) 39 #[.int .i64 xf, .int .i64 xt, .int .i64 p, .int .i64 q] := by
                have := Blk.new (w4.alloc (.cells #[.int .i64 p, .int .i64 q] 32)) 39 #[.int .i64 xf, .int .i64 xt, .int .i64 p, .int .i64 q]
                simpa using this
              have hbz := hbr.trans (hb6w.mono hsz)
              have own9x := ownsRow_step own9 hb6w
              have own10x := ownsRow_step own10 hb6w
              have own11x := ownsRow_step own11 hb6w
              have BXn := BX.alloc (.cells #[.int .i64 xf, .int .i64 xt, .int .i64 p, .int .i64 q] 39)
              have c0 : World.cell? (w4.alloc (.cells #[.int .i64 p, .int .i64 q] 32)) ⟨wr.heap.size, 0, none⟩ = some (.int .i64 xf) := BX.cell 0
              have c1 : World.cell? (w4.alloc (.cells #[.int .i64 p, .int .i64 q] 32)) ⟨wr.heap.size, 1, none⟩ = some (.int .i64 xt) := BX.cell 1
              have c2 : World.cell? (w4.alloc (.cells #[.int .i64 p, .int .i64 q] 32)) ⟨wr.heap.size, 2, none⟩ = some (.int .i64 xm) := BX.cell 2
              have lx := BX.lt
              have hgx : ∀ j, Value.ownBlock u10 = some j → j ≠ wr.heap.size := fun j hj => by have := own_lt own10 j hj; omega
              go_wp2_with (first | (at_builtin; refine wpList_append_any _ rfl _ _ _ rfl wa.heap.size 39 tk _ 4 32 Try.underlying30 ki kz ksi kby rfl (by omega) _ k _ rfl own10x _ 1 (encR ⟨xf, xt, ⟨p, q⟩⟩) rfl (Src.of_blk BN 1) rfl (fun u hu => oneR [⟨xf, xt, ⟨p, q⟩⟩] u (by simpa [rowOf] using hu)) (by simp only [maxLen]; omega) (by omega) (by exact hbz.size) ?_; intro v5 w5 own5 hg5 hat5; have hb5 : Below wa.heap.size wa w5 := Below.grown hbz hg5 hbz.size (own_ge' own10); have own9y := own_grown own9x hg5 hap1; have own11y := own_grown own11x hg5 hap3.symm; have ap95 : Apart u9 v5 := Apart.grow hap1 own9x hat5; have ap115 : Apart u11 v5 := Apart.grow hap3.symm own11x hat5; have BX5 := Blk.grown BXn hg5 (fun h => hgx _ h.symm rfl); have y2 : World.cell? w5 ⟨wr.heap.size, 2, none⟩ = some (.int .i64 xm) := BX5.cell 2; have ly := BX5.lt; have hbv5 := Below.alloc (Below.refl w5.heap.size w5) (Nat.le_refl _) (.cells #[.int .i64 xm] 3); have BN5 := Blk.new w5 3 #[.int .i64 xm]; have own9z := ownsRow_step own9y hbv5; have own11z := ownsRow_step own11y hbv5; have own5z := ownsRow_step own5 hbv5; have hbz5 := hb5.alloc hb5.size (.cells #[.int .i64 xm] 3)) | (at_builtin; refine wpList_append_any _ rfl _ _ _ rfl wa.heap.size 3 tj _ 1 8 Try.underlying24 ji jz jsi jby rfl (by omega) _ (o.length + k) _ rfl own11z _ 1 (encI xm) rfl (Src.of_blk BN5 1) rfl (fun u hu => oneI [xm] u (by simpa [rowOf] using hu)) (by simp only [maxLen]; omega) (by omega) (by exact hbz5.size) ?_; intro v6 w6 own6 hg6 hat6))
              have hb6 : Below wa.heap.size wa w6 := Below.grown hbz5 hg6 hbz5.size (own_ge' own11)
              have own9f := own_grown own9z hg6 hap2
              have own10f := own_grown own5z hg6 ap115.symm
              have ap96 : Apart u9 v6 := Apart.grow hap2 own9z hat6
              have ap56 : Apart v5 v6 := Apart.grow ap115.symm own5z hat6
              have own10g : w6.ownsRow wa.heap.size 39 4 v5 (k + 1) (rowOf encR ((l.take (k + 1)).map (mvAt sa sb sc sd se sf t))) := by
                rw [HT10.out, rowOf_append, HME.out]
                simpa [rowOf] using own10f
              have own11g : w6.ownsRow wa.heap.size 3 1 v6 (o.length + (k + 1)) (rowOf encI (o ++ (l.take (k + 1)).map Wd.mass)) := by
                rw [HT11.out, rowOf_append]
                simpa [rowOf, Nat.add_assoc] using own6
              clear own9 own10 own11 own9x own10x own11x own5 own9y own11y own9z own11z own5z own6 own10f hg5 hg6 hat5 hat6
              go_roundw
              case rel => exact ⟨k + 1, hlt, by simp, HALL.out HCD.out, hb6, own9f, own10g, own11g, ap95, ap96, ap56⟩
              case measure => simp [intOf]; omega
          · obtain rfl : k = l.length := by omega
            rw [List.take_length] at hall own10 own11
            have HLW := Lib.hid (HLAW.out HALL1.out hall (by omega))
            have hl1 : (o.map fiAt).length = o.length := by simp
            have hl2 : (l.map (mvAt sa sb sc sd se sf t)).length = l.length := by simp
            have hl3 : (o ++ l.map Wd.mass).length = o.length + l.length := by simp
            have R9 : RowIn wr u9 2 encP (o.map fiAt) := RowIn.of_own encP_len (by rw [hl1]; exact own9)
            have R10 : RowIn wr u10 4 encR (l.map (mvAt sa sb sc sd se sf t)) := RowIn.of_own encR_len (by rw [hl2]; exact own10)
            have R11 : RowIn wr u11 1 encI (o ++ l.map Wd.mass) := RowIn.of_own encI_len (by rw [hl3]; exact own11)
            clear own9 own10 own11 hall hl1 hl2 hl3 hap1 hap2 hap3 hrc htr
            generalize o.map fiAt = F at *
            generalize l.map (mvAt sa sb sc sd se sf t) = M at *
            generalize o ++ l.map Wd.mass = TR at *
            replace hb := hw0
            have hck := rcheckB_any ((o.length : Nat) : Int) R9 R10
            by_cases hbc : bchk ((o.length : Nat) : Int) F M = 0
            · obtain ⟨s1, s2⟩ := HLW.out hbc
              have hsV := (stkE_ok (n := ((o.length : Nat) : Int)) hbc (by
                cases hv : allV (stkL F M) with
                | true => rfl
                | false => rw [(stkE_bad hbc hv).1] at s1; cases s1)).2
              rw [hbc] at hck
              clear hbc
              go_wp2_with fail
              refine hck.mono ?_
              rintro e w3 ⟨rfl, hb3⟩
              replace R9 := R9.step hb3
              replace R10 := R10.step hb3
              replace R11 := R11.step hb3
              replace hb := hb.trans (hb3.mono hb.size)
              have hst := stock_any ((o.length : Nat) : Int) R9 R10
              rw [s1, hsV] at hst
              clear hck hb3
              go_wp2_with fail
              refine hst.mono ?_
              rintro e w4 ⟨v4, rfl, R4, hb4⟩
              replace R9 := R9.step hb4
              replace R10 := R10.step hb4
              replace R11 := R11.step hb4
              replace hb := hb.trans (hb4.mono hb.size)
              have hh1 := rholds_any ((o.length : Nat) : Int) R9 R10 R4 R11
              rw [s2] at hh1
              clear hst hb4
              go_wp2_with fail
              refine hh1.mono ?_
              rintro e w5 ⟨rfl, hb5⟩
              replace R9 := R9.step hb5
              replace R10 := R10.step hb5
              replace R11 := R11.step hb5
              replace R4 := R4.step hb5
              replace hb := hb.trans (hb5.mono hb.size)
              have hh2 := holds_any ((o.length : Nat) : Int) R9 R10 R4 R11
              rw [s2] at hh2
              clear hh1 hb5
              go_wp2_with fail
              refine hh2.mono ?_
              rintro e w6 ⟨rfl, hb6⟩
              replace hb := hb.trans (hb6.mono hb.size)
              go_wp2_with fail
              refine (awake28_any _).mono ?_
              rintro e w9 ⟨rfl, hb9⟩
              go_wp2_with fail
              go_ret
              exact ⟨rfl, hb.trans (hb9.mono hb.size)⟩
            · have hbc' : (bchk ((o.length : Nat) : Int) F M != 0) = true := by simpa using hbc
              clear hbc HLW
              generalize bchk ((o.length : Nat) : Int) F M = E at *
              go_wp2_with fail
              refine hck.mono ?_
              rintro e w3 ⟨rfl, hb3⟩
              replace hb := hb.trans (hb3.mono hb.size)
              go_wp2_with fail
              refine (awake28_any _).mono ?_
              rintro e w9 ⟨rfl, hb9⟩
              go_wp2_with fail
              go_ret
              exact ⟨rfl, hb.trans (hb9.mono hb.size)⟩
  · have h0' : (chk sa sb sc sd se sf != 0) = true := by simpa using h0
    clear h0
    generalize chk sa sb sc sd se sf = E at *
    go_enter Try.func3, Try.ntmps3
    have cx := BS.cell
    have lx := BS.lt
    go_wp2_with fail
    refine (hck _).mono ?_
    rintro e w1 ⟨rfl, hb1⟩
    replace hb := hb.trans (hb1.mono hb.size)
    go_wp2_with fail
    refine (awake28_any _).mono ?_
    rintro e w9 ⟨rfl, hb9⟩
    go_wp2_with fail
    go_ret
    exact ⟨rfl, hb.trans (hb9.mono hb.size)⟩

end Go.Proofs.Ytapfihlfnaebhaa
