/- Contract: the errors of one lot. -/
import Derived.Test.YtapfihlfnaebhaaLotA
namespace Go.Proofs.Ytapfihlfnaebhaa
set_option linter.unusedVariables false
set_option linter.unusedSimpArgs false
open Go.RowKit

theorem zeroI (w : World) : (zeroValue 3).run Try.prog w = .ok (.int .i64 0) w := by kernel_rfl
theorem zeroB (w : World) : (zeroValue 4).run Try.prog w = .ok (.bool false) w := by kernel_rfl
def OpRelL (w1 : World) (K : Int → Bool) (x : Lv) (i : Value) (wr : World) : Prop := ∃ k : Nat, k ≤ x.parts.length ∧ i = .int .i64 k ∧ firstE (ptE K) (x.parts.take k) = 0 ∧ Below w1.heap.size w1 wr ∧ Blk wr w1.heap.size 32 #[.int .i64 (sumLo (x.parts.take k)), .int .i64 (sumHi (x.parts.take k))]
def OsRel (w2 : World) (x : Lv) (i : Value) (wr : World) : Prop := ∃ k : Nat, k ≤ x.parts.length ∧ i = .int .i64 k ∧ dupP x.parts k = false ∧ Below w2.heap.size w2 wr ∧ ∃ f s, MapIs wr Try.prog 3 eBool w2.heap.size k f s ∧ ∀ y, (f y).getD false = seenP x.parts k y
theorem ptE_is (K : Int → Bool) (p : Pt) : (K p.lot = false → ptE K p = 7) ∧ (K p.lot = true → (mOk p.lo p.hi = false → ptE K p = 1) ∧ (mOk p.lo p.hi = true → ptE K p = 0)) := by
  unfold ptE
  cases K p.lot <;> cases mOk p.lo p.hi <;> simp
theorem dup_late {ps : List Pt} {k : Nat} (h : dupP ps (k + 1) = true) : ∀ n, k < n → dupP ps n = true
  | 0, hn => absurd hn (Nat.not_lt_zero _)
  | n + 1, hn => by
    by_cases e : n = k
    · subst e; exact h
    · unfold dupP; rw [dup_late h n (by omega)]; rfl
theorem headE_cases (x : Lv) : (headE x = 1 ∧ (x.id < 1 ∨ (¬ x.id < 1 ∧ x.id > 1000000))) ∨ (¬ x.id < 1 ∧ ¬ x.id > 1000000 ∧
    ((headE x = 21 ∧ (x.mat < 0 ∨ (¬ x.mat < 0 ∧ x.mat ≥ 16))) ∨ (¬ x.mat < 0 ∧ ¬ x.mat ≥ 16 ∧
      ((headE x = 1 ∧ mOk x.lo x.hi = false) ∨ (mOk x.lo x.hi = true ∧ ((headE x = 8 ∧ x.parts.length > 8) ∨ (headE x = 0 ∧ ¬ x.parts.length > 8))))))) := by
  unfold headE
  by_cases h1 : x.id < 1 ∨ x.id > 1000000
  · rw [if_pos h1]; exact .inl ⟨rfl, by omega⟩
  · rw [if_neg h1]
    refine .inr ⟨by omega, by omega, ?_⟩
    by_cases h2 : x.mat < 0 ∨ x.mat ≥ 16
    · rw [if_pos h2]; exact .inl ⟨rfl, by omega⟩
    · rw [if_neg h2]
      refine .inr ⟨by omega, by omega, ?_⟩
      cases h3 : mOk x.lo x.hi with
      | false => rw [if_pos rfl]; exact .inl ⟨rfl, rfl⟩
      | true =>
        rw [if_neg (by simp)]
        refine .inr ⟨rfl, ?_⟩
        by_cases h4 : x.parts.length > 8
        · rw [if_pos h4]; exact .inl ⟨rfl, h4⟩
        · rw [if_neg h4]; exact .inr ⟨rfl, h4⟩
set_option maxRecDepth 100000 in
set_option maxHeartbeats 8000000 in
theorem one_any {w : World} {b n s : Nat} {f : Int → Option Int} (x : Lv) (hm : MapIs w Try.prog 3 eInt b n f s) (hp : RowIn w x.pv 3 encT x.parts) (hl : ∀ p ∈ x.parts, (Lit.int .i64 p.lot).wf = true) :
    Calls Try.prog 59 #[.agg #[.int .i64 (x).id, .int .i64 (x).mat, .int .i64 (x).lo, .int .i64 (x).hi, (x).pv], .map (some b)] w fun e w' => e = .returned (.int .i64 (oneE (fun y => (f y).isSome) x)) ∧ Below w.heap.size w w' := by
  have hms := fun lo hi w => lmass_any lo hi w
  have hO : oneE (fun y => (f y).isSome) x = if headE x ≠ 0 then headE x else if firstE (ptE (fun y => (f y).isSome)) x.parts ≠ 0 then firstE (ptE (fun y => (f y).isSome)) x.parts else if dupP x.parts x.parts.length = true then 6 else balE x := rfl
  have hcas := headE_cases x
  have hB : balE x = if x.parts ≠ [] ∧ (sumHi x.parts < x.lo ∨ sumLo x.parts > x.hi) then 16 else 0 := rfl
  have BX := Blk.new w 49 (#[.int .i64 (x).id, .int .i64 (x).mat, .int .i64 (x).lo, .int .i64 (x).hi, (x).pv])
  have hb : Below w.heap.size w (w.alloc (.cells (#[.int .i64 (x).id, .int .i64 (x).mat, .int .i64 (x).lo, .int .i64 (x).hi, (x).pv]) 49)) := by repeat (first | (with_reducible exact Below.refl _ _) | (with_reducible assumption) | (with_reducible refine Below.drew ?_) | ((with_reducible refine Below.alloc ?_ ?_ _); rotate_left; (first | (with_reducible exact Nat.zero_le _) | (with_reducible exact Nat.le_refl _) | omega | (dsimp only; omega) | (simp only [World.size_alloc, World.size_setCell, World.size_drew]; omega))) | ((with_reducible refine Below.setCell ?_ ?_ _); rotate_left; (first | (with_reducible exact Nat.zero_le _) | (with_reducible exact Nat.le_refl _) | omega | (dsimp only; omega) | (simp only [World.size_alloc, World.size_setCell, World.size_drew]; omega))))
  obtain ⟨oa, cap, hv, p1, p2, _, hp5⟩ := hp.at_
  unfold maxLen at p2
  have HP := Lib.hid hp5
  clear hp5 hp
  generalize oneE (fun y => (f y).isSome) x = OE at *
  obtain ⟨xi, xm, xl, xh, xv, ps⟩ := x
  dsimp only at *
  subst hv
  generalize headE ⟨xi, xm, xl, xh, .slice oa ps.length cap, ps⟩ = HE at *
  generalize balE ⟨xi, xm, xl, xh, .slice oa ps.length cap, ps⟩ = BE at *
  rcases hcas with ⟨rfl, hd⟩ | ⟨g1, g2, hcas⟩
  · rw [if_pos (by decide)] at hO
    subst hO
    rcases hd with d1 | ⟨d1, d2⟩
    all_goals (
      go_enter Try.func59, Try.ntmps59
      go_wp2_with fail
      go_ret
      exact ⟨rfl, hb⟩)
  rcases hcas with ⟨rfl, hd⟩ | ⟨g3, g4, hcas⟩
  · rw [if_pos (by decide)] at hO
    subst hO
    rcases hd with d1 | ⟨d1, d2⟩
    all_goals (
      go_enter Try.func59, Try.ntmps59
      go_wp2_with fail
      go_ret
      exact ⟨rfl, hb⟩)
  have hm1 := fun w => hms xl xh w
  rcases hcas with ⟨rfl, hd⟩ | ⟨hd, hcas⟩
  · rw [if_pos (by decide)] at hO
    subst hO
    rw [hd] at hm1
    clear hd
    go_enter Try.func59, Try.ntmps59
    go_wp2_with fail
    refine (hm1 _).mono ?_
    rintro e w1 ⟨rfl, hb1⟩
    go_wp2_with fail
    go_ret
    exact ⟨rfl, hb.trans (hb1.mono hb.size)⟩
  rw [hd] at hm1
  clear hd
  rcases hcas with ⟨rfl, hd⟩ | ⟨rfl, hd⟩
  · rw [if_pos (by decide)] at hO
    subst hO
    have hd' : (ps.length : Int) > 8 := by omega
    clear hd
    go_enter Try.func59, Try.ntmps59
    go_wp2_with fail
    refine (hm1 _).mono ?_
    rintro e w1 ⟨rfl, hb1⟩
    replace BX := BX.step hb1
    have cx := BX.cell
    have lx := BX.lt
    go_wp2_with fail
    go_ret
    exact ⟨rfl, hb.trans (hb1.mono hb.size)⟩
  have hd' : ¬ (ps.length : Int) > 8 := by omega
  rw [if_neg (by decide)] at hO
  have HO := Lib.hid hO
  clear hO
  go_enter Try.func59, Try.ntmps59
  go_wp2_with fail
  refine (hm1 _).mono ?_
  rintro e w1 ⟨rfl, hb1⟩
  replace BX := BX.step hb1
  have hb0 := hb.trans (hb1.mono hb.size)
  replace hm := (hm.alloc (.cells #[.int .i64 xi, .int .i64 xm, .int .i64 xl, .int .i64 xh, .slice oa ps.length cap] 49)).step hb1
  have cx := BX.cell
  have lx := BX.lt
  clear hm1 hb hb1
  go_wp2_with fail
  have hz1 := hb0.size
  have hK0 : ∀ p : Pt, ((f p.lot).isSome = false → ptE (fun y => (f y).isSome) p = 7) ∧ ((f p.lot).isSome = true → (mOk p.lo p.hi = false → ptE (fun y => (f y).isSome) p = 1) ∧ (mOk p.lo p.hi = true → ptE (fun y => (f y).isSome) p = 0)) := fun p => ptE_is (fun y => (f y).isSome) p
  have HK := Lib.hid hK0
  clear hK0
  go_loopw [44] (fun i wr => OpRelL w1 (fun y => (f y).isSome) ⟨xi, xm, xl, xh, .slice oa ps.length cap, ps⟩ i wr) (fun i _ => (ps.length - intOf i).toNat)
  case atStart => exact ⟨0, Nat.zero_le _, rfl, rfl, by repeat (first | (with_reducible exact Below.refl _ _) | (with_reducible assumption) | (with_reducible refine Below.drew ?_) | ((with_reducible refine Below.alloc ?_ ?_ _); rotate_left; (first | (with_reducible exact Nat.zero_le _) | (with_reducible exact Nat.le_refl _) | omega | (dsimp only; omega) | (simp only [World.size_alloc, World.size_setCell, World.size_drew]; omega))) | ((with_reducible refine Below.setCell ?_ ?_ _); rotate_left; (first | (with_reducible exact Nat.zero_le _) | (with_reducible exact Nat.le_refl _) | omega | (dsimp only; omega) | (simp only [World.size_alloc, World.size_setCell, World.size_drew]; omega)))), Blk.new w1 32 #[.int .i64 0, .int .i64 0]⟩
  case round =>
    obtain ⟨k, hk, rfl, hok, hbr, BO⟩ := hrel
    dsimp only at hk hok BO
    have hwr := hbr.size
    have hb := hb0.trans (hbr.mono hz1)
    by_cases hkl : k < ps.length
    · have hki : (k : Int) < ps.length := by omega
      have hk0 : (0 : Int) ≤ k := by omega
      have hx := getD_of (d := pt0) hkl
      obtain ⟨ob, oo, rfl, hoz, hoc⟩ := HP.out (by rintro rfl; simp at hkl)
      have ec := hoc k _ hx
      have q : ∀ j, wr.cell? ⟨ob, j, none⟩ = w.cell? ⟨ob, j, none⟩ := fun j => hb.cell (p := ⟨ob, j, none⟩) hoz
      have HT := Lib.hid (fun (h : ptE (fun y => (f y).isSome) (ps.getD k pt0) = 0) => (firstE_take (ptE (fun y => (f y).isSome)) hx hok).trans h)
      have HS := Lib.hid (fun h => firstE_stop (ptE (fun y => (f y).isSome)) hx hok h)
      have HLo := Lib.hid (sumLo_take hx)
      have HHi := Lib.hid (sumHi_take hx)
      have hwf := hl _ (List.mem_of_getElem? hx)
      have hsb := sumP_bd (ps := ps.take k) (fun p hp => (ptE_ok.1 (firstE_mem hok p hp)).2) (ps.take k).length (Nat.le_refl _)
      rw [List.take_length] at hsb
      have hl8 : (ps.take k).length ≤ 8 := by simp; omega
      have hKx := HK.out (ps.getD k pt0)
      clear hx hok hoc
      generalize ps.getD k pt0 = y at *
      generalize sumLo (ps.take k) = SL at *
      generalize sumHi (ps.take k) = SH at *
      obtain ⟨yl, y1, y2⟩ := y
      dsimp only at *
      have e0 : World.cell? wr ⟨ob, oo + k * 3, none⟩ = some (.int .i64 yl) := (q _).trans (ec 0 (by omega))
      have e1 : World.cell? wr ⟨ob, oo + k * 3 + 1, none⟩ = some (.int .i64 y1) := (q _).trans (ec 1 (by omega))
      have e2 : World.cell? wr ⟨ob, oo + k * 3 + 2, none⟩ = some (.int .i64 y2) := (q _).trans (ec 2 (by omega))
      clear ec q
      have hbx : Below wr.heap.size wr (wr.alloc (.cells #[.int .i64 yl, .int .i64 y1, .int .i64 y2] 51)) := by repeat (first | (with_reducible exact Below.refl _ _) | (with_reducible assumption) | (with_reducible refine Below.drew ?_) | ((with_reducible refine Below.alloc ?_ ?_ _); rotate_left; (first | (with_reducible exact Nat.zero_le _) | (with_reducible exact Nat.le_refl _) | omega | (dsimp only; omega) | (simp only [World.size_alloc, World.size_setCell, World.size_drew]; omega))) | ((with_reducible refine Below.setCell ?_ ?_ _); rotate_left; (first | (with_reducible exact Nat.zero_le _) | (with_reducible exact Nat.le_refl _) | omega | (dsimp only; omega) | (simp only [World.size_alloc, World.size_setCell, World.size_drew]; omega))))
      have BY := Blk.new wr 51 #[.int .i64 yl, .int .i64 y1, .int .i64 y2]
      have hbz := hbr.trans (hbx.mono hwr)
      have hmz := (hm.step hbr).step hbx
      generalize ptE (fun y => (f y).isSome) ⟨yl, y1, y2⟩ = PE at *
      cases hsome : (f yl).isSome with
      | false =>
        have h7 := hKx.1 hsome
        have HOE := Lib.hid (HO.out.trans (by rw [HS.out (by rw [h7]; decide), h7, if_pos (by decide)]))
        clear HT HS HK hKx h7
        go_wp2_with (at_lookup; refine wpList_lookup_map_ok rfl _ _ 101 rfl 3 Try.underlying3 Try.underlying101 0 (zeroI _) rfl hmz _ rfl hwf ?_)
        go_ret
        exact ⟨by rw [HOE.out]; rfl, hb0.trans (hbz.mono hz1)⟩
      | true =>
        have h8 := hKx.2 hsome
        have hm2 := fun w => hms y1 y2 w
        cases hmo : mOk y1 y2 with
        | false =>
          have h1 := h8.1 hmo
          rw [hmo] at hm2
          have HOE := Lib.hid (HO.out.trans (by rw [HS.out (by rw [h1]; decide), h1, if_pos (by decide)]))
          clear HT HS HK hKx h8 h1 hmo
          go_wp2_with (at_lookup; refine wpList_lookup_map_ok rfl _ _ 101 rfl 3 Try.underlying3 Try.underlying101 0 (zeroI _) rfl hmz _ rfl hwf ?_)
          refine (hm2 _).mono ?_
          rintro e w3 ⟨rfl, hb3⟩
          go_wp2_with fail
          go_ret
          exact ⟨by rw [HOE.out]; rfl, hb0.trans ((hbz.trans (hb3.mono hbz.size)).mono hz1)⟩
        | true =>
          have h0 := h8.2 hmo
          have hmo' := mOk_iff.1 hmo
          rw [hmo] at hm2
          have HTK := Lib.hid (HT.out h0)
          clear HT HS HK hKx h8 h0 hmo
          go_wp2_with (at_lookup; refine wpList_lookup_map_ok rfl _ _ 101 rfl 3 Try.underlying3 Try.underlying101 0 (zeroI _) rfl hmz _ rfl hwf ?_)
          refine (hm2 _).mono ?_
          rintro e w3 ⟨rfl, hb3⟩
          have hno := BO.lt
          replace BO := (BO.step hbx).step hb3
          replace BY := BY.step hb3
          have cy := BY.cell
          have ly := BY.lt
          have co := BO.cell
          have fo := BO.free
          have lo := BO.lt
          replace hbz := hbz.trans (hb3.mono hbz.size)
          have hbs := (hbz.setCell (p := ⟨w1.heap.size, 0, none⟩) (Nat.le_refl _) (.int .i64 (SL + y1))).setCell (p := ⟨w1.heap.size, 1, none⟩) (Nat.le_refl _) (.int .i64 (SH + y2))
          have BOs := (BO.put 0 (.int .i64 (SL + y1))).put 1 (.int .i64 (SH + y2))
          have hne : w1.heap.size ≠ wr.heap.size := by omega
          have hne2 : wr.heap.size ≠ w1.heap.size := by omega
          obtain ⟨s1, s2, s3⟩ := hsb
          obtain ⟨t1, t2, t3⟩ := hmo'
          clear e0 e1 e2 hb3 BO
          go_wp2_with fail
          go_roundw
          case rel => exact ⟨k + 1, hkl, by simp, HTK.out, hbs, by rw [HLo.out, HHi.out]; exact BOs⟩
          case measure => simp [intOf]; omega
    · obtain rfl : k = ps.length := by omega
      rw [List.take_length] at hok BO
      have hsb := sumP_bd (fun p hp => (ptE_ok.1 (firstE_mem hok p hp)).2) ps.length (Nat.le_refl _)
      rw [List.take_length] at hsb
      have HO1 := Lib.hid (HO.out.trans (if_neg (by simp [hok])))
      have HB := Lib.hid hB
      have BXr := (BX.step hbr)
      clear HO HK hB hok
      generalize sumLo ps = SL at *
      generalize sumHi ps = SH at *
      have cx := BXr.cell
      have lx := BXr.lt
      have hmm := @run_makeMap Try.prog
      have hgo := BO.lt
      go_wp2_with fail
      clear hmm
      go_loopw [80] (fun i wz => OsRel wr ⟨xi, xm, xl, xh, .slice oa ps.length cap, ps⟩ i wz) (fun i _ => (ps.length - intOf i).toNat)
      case atStart => exact ⟨0, Nat.zero_le _, rfl, rfl, (Below.refl _ _).alloc (Nat.le_refl _) _, _, _, MapIs.made _ _ _ _, fun y => rfl⟩
      case round =>
        have hbr0 := hbr
        have hb00 := hb
        clear cx lx
        obtain ⟨k, hk, rfl, hdu, hbz, f', s', hmp, hf'⟩ := hrel
        dsimp only at hk hdu hf'
        have hwz := hbz.size
        by_cases hkl : k < ps.length
        · have hki : (k : Int) < ps.length := by omega
          have hk0 : (0 : Int) ≤ k := by omega
          have hx := getD_of (d := pt0) hkl
          obtain ⟨ob, oo, rfl, hoz, hoc⟩ := HP.out (by rintro rfl; simp at hkl)
          have ec := hoc k _ hx
          have hball := hb00.trans (hbz.mono hb00.size)
          have q : ∀ j, World.cell? _ ⟨ob, j, none⟩ = w.cell? ⟨ob, j, none⟩ := fun j => hball.cell (p := ⟨ob, j, none⟩) hoz
          have hwf := hl _ (List.mem_of_getElem? hx)
          have hdk : dupP ps (k + 1) = (dupP ps k || seenP ps k (ps.getD k pt0).lot) := rfl
          rw [hdu, Bool.false_or] at hdk
          have hsk : ∀ y, seenP ps (k + 1) y = if y = (ps.getD k pt0).lot then true else seenP ps k y := fun y => rfl
          clear hx hoc hdu
          generalize ps.getD k pt0 = y at *
          obtain ⟨yl, y1, y2⟩ := y
          dsimp only at *
          have e0 : World.cell? wr ⟨ob, oo + k * 3, none⟩ = some (.int .i64 yl) := (q _).trans (ec 0 (by omega))
          have e1 : World.cell? wr ⟨ob, oo + k * 3 + 1, none⟩ = some (.int .i64 y1) := (q _).trans (ec 1 (by omega))
          have e2 : World.cell? wr ⟨ob, oo + k * 3 + 2, none⟩ = some (.int .i64 y2) := (q _).trans (ec 2 (by omega))
          clear ec q
          have hbx : Below wr.heap.size wr (wr.alloc (.cells #[.int .i64 yl, .int .i64 y1, .int .i64 y2] 51)) := by repeat (first | (with_reducible exact Below.refl _ _) | (with_reducible assumption) | (with_reducible refine Below.drew ?_) | ((with_reducible refine Below.alloc ?_ ?_ _); rotate_left; (first | (with_reducible exact Nat.zero_le _) | (with_reducible exact Nat.le_refl _) | omega | (dsimp only; omega) | (simp only [World.size_alloc, World.size_setCell, World.size_drew]; omega))) | ((with_reducible refine Below.setCell ?_ ?_ _); rotate_left; (first | (with_reducible exact Nat.zero_le _) | (with_reducible exact Nat.le_refl _) | omega | (dsimp only; omega) | (simp only [World.size_alloc, World.size_setCell, World.size_drew]; omega))))
          have hbzz := hbz.trans (hbx.mono hwz)
          have hmpz := hmp.step hbx
          have hfy := hf' yl
          have hk60 : k < maxLen := by unfold maxLen; omega
          cases hse : seenP ps k yl with
          | true =>
            have HD := Lib.hid (HO1.out.trans (if_pos (dup_late (hdk.trans hse) ps.length hkl)))
            rw [hse] at hfy
            have HFY := Lib.hid hfy
            clear hdk hsk hf' hfy hse
            go_wp2_with (at_lookup; refine wpList_lookup_map rfl _ _ 119 rfl 4 Try.underlying3 Try.underlying119 false (zeroB _) rfl hmpz _ rfl hwf ?_; rw [HFY.out]; show wpList _ _ _ _ (Act.put _ _ (.bool true)) _)
            go_ret
            exact ⟨by rw [HD.out]; rfl, hball.trans (hbx.mono hball.size)⟩
          | false =>
            have HDK := Lib.hid (hdk.trans hse)
            rw [hse] at hfy
            have HFY := Lib.hid hfy
            have HF2 := Lib.hid (fun y => (show (if y = yl then some true else f' y).getD false = seenP ps (k + 1) y by rw [hsk y]; by_cases h : y = yl <;> simp [h, hf']))
            clear hdk hsk hf' hfy hse
            go_wp2_with (first | (at_lookup; refine wpList_lookup_map rfl _ _ 119 rfl 4 Try.underlying3 Try.underlying119 false (zeroB _) rfl hmpz _ rfl hwf ?_; rw [HFY.out]; show wpList _ _ _ _ (Act.put _ _ (.bool false)) _) | (at_mapUpdate; refine wpList_update_map rfl _ _ _ 119 rfl 4 Try.underlying3 Try.underlying119 rfl hmpz hk60 _ true rfl rfl hwf ?_; intro w6 hm6 hg6))
            have hb6 := Below.grown hbzz hg6 hbzz.size (fun j hj => by cases hj; exact Nat.le_refl _)
            clear e0 e1 e2 hg6
            go_roundw
            case rel => exact ⟨k + 1, hkl, by simp, HDK.out, hb6, _, _, hm6, fun y => HF2.out y⟩
            case measure => simp [intOf]; omega
        · obtain rfl : k = ps.length := by omega
          rw [if_neg (by rw [hdu]; simp)] at HO1
          have BXz := BXr.step hbz
          have BOz := BO.step hbz
          have cx := BXz.cell
          have lx := BXz.lt
          have co := BOz.cell
          have lo := BOz.lt
          have hfin := hb00.trans (hbz.mono hb00.size)
          clear hmp hf' hdu
          have hpe : ps = [] ↔ ¬ (ps.length : Int) > 0 := by
            constructor
            · rintro rfl; simp
            · intro h; exact List.eq_nil_of_length_eq_zero (by omega)
          rcases (show ¬ (ps.length : Int) > 0 ∨ ((ps.length : Int) > 0 ∧ (SH < xl ∨ (¬ SH < xl ∧ SL > xh) ∨ (¬ SH < xl ∧ ¬ SL > xh))) by omega) with d1 | ⟨d1, d2 | ⟨d2, d3⟩ | ⟨d2, d3⟩⟩
          · have HR := Lib.hid (HO1.out.trans (HB.out.trans (if_neg fun h => h.1 (hpe.2 d1))))
            clear hpe
            go_wp2_with fail
            go_ret
            exact ⟨by rw [HR.out]; rfl, hfin⟩
          · have HR := Lib.hid (HO1.out.trans (HB.out.trans (if_pos ⟨fun h => hpe.1 h d1, .inl d2⟩)))
            clear hpe
            go_wp2_with fail
            go_ret
            exact ⟨by rw [HR.out]; rfl, hfin⟩
          · have HR := Lib.hid (HO1.out.trans (HB.out.trans (if_pos ⟨fun h => hpe.1 h d1, .inr d3⟩)))
            clear hpe
            go_wp2_with fail
            go_ret
            exact ⟨by rw [HR.out]; rfl, hfin⟩
          · have HR := Lib.hid (HO1.out.trans (HB.out.trans (if_neg fun h => by omega)))
            clear hpe
            go_wp2_with fail
            go_ret
            exact ⟨by rw [HR.out]; rfl, hfin⟩

end Go.Proofs.Ytapfihlfnaebhaa
