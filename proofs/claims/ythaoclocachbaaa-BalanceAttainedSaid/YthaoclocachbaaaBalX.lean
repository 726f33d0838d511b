/- Contract: Tighten of the program. -/
import Derived.Test.YthaoclocachbaaaBalW
import Derived.Test.YthaoclocachbaaaBalU
import Derived.Test.YthaoclocachbaaaBalK
namespace Go.Proofs.Ythaoclocachbaaa
set_option linter.unusedVariables false
set_option linter.unusedSimpArgs false
open Go.RowKit

theorem edges_set_eq {N : Nat} {o : List Sp} {l : List Tr} {c : List Sp} {k : Nat} {t : Tr} (h : l[k]? = some t) (a b : Int) :
    (edgesL N o l c).set (N + k) ⟨t.frm.toNat, t.to.toNat, a, b⟩ = edgesL N o (l.set k (withB t a b)) c := by
  have hk : k < l.length := (List.getElem?_eq_some_iff.1 h).1
  unfold edgesL
  rw [List.set_append_right _ _ (by rw [openEds_len]; omega), openEds_len, Nat.add_sub_cancel_left, List.set_append_left _ _ (by simpa using hk), List.map_set]
  rfl
theorem edges_get {N : Nat} {o : List Sp} {l : List Tr} {c : List Sp} {k : Nat} {t : Tr} (h : l[k]? = some t) : (edgesL N o l c)[N + k]? = some (trEd t) := by
  have hk : k < l.length := (List.getElem?_eq_some_iff.1 h).1
  unfold edgesL
  rw [List.getElem?_append_right (by rw [openEds_len]; omega), openEds_len, Nat.add_sub_cancel_left, List.getElem?_append_left (by simpa using hk), List.getElem?_map, h]
  rfl
theorem t1_feas {w w' : World} {N : Nat} {o : List Sp} {l : List Tr} {c : List Sp} {k : Nat} {t : Tr} {a b : Int} {e : Ending} (hA : bchkA N o l c = 0) (hf : feasB N o l c = true) (h : l[k]? = some t) (h1 : t.mass.lo ≤ a) (h2 : a ≤ b) (h3 : b ≤ t.mass.hi)
    (ho : T1Out w N ((edgesL N o l c).set (N + k) ⟨t.frm.toNat, t.to.toNat, a, b⟩) e w') : e = .returned (.bool (decide ((tightAt N o l c t).lo ≤ b ∧ a ≤ (tightAt N o l c t).hi))) ∧ Below w.heap.size w w' := by
  obtain ⟨hb, hc, hv⟩ := bchkA_ok hA
  have hB := bchk_ok hb
  have hm := tr_mass hB h
  have hok := edges_ok (bok_set hB h (by omega) h2 (by omega)) (by omega : c.length = N) hv
  have hfs := feas_set hA hf h h1 h2 h3
  obtain ⟨hbl, ho⟩ := ho
  rw [edges_set_eq h] at ho
  rcases ho with ⟨rfl, T, hT⟩ | ⟨rfl, hc⟩
  · have : ¬ feasB N o (l.set k (withB t a b)) c = true := fun hh => by have := (feas_iff hok).1 hh T; omega
    rw [hfs] at this
    exact ⟨by rw [decide_eq_false this], hbl⟩
  · have := (feas_circ hok).2 hc
    rw [hfs] at this
    exact ⟨by rw [decide_eq_true this], hbl⟩

def TtRel (w3 : World) (L : List Sp) (v i : Value) (wr : World) : Prop :=
  ∃ k : Nat, k ≤ L.length ∧ i = .int .i64 k ∧ Below w3.heap.size w3 wr ∧ wr.ownsRow w3.heap.size 41 2 v k (rowOf encP (L.take k))
/-- A search between two numbers that are kept in memory: x lies between. -/
def SeRel (wy : World) (gx gs : Nat) (cs : Array Value) (lo x hi : Int) (m : Nat) (_ : Value) (wr : World) : Prop :=
  ∃ A B, lo ≤ A ∧ A ≤ x ∧ x ≤ B ∧ B ≤ hi ∧ (B - A).toNat = m ∧ Below gx wy wr ∧ Blk wr gx 43 cs ∧ Blk wr gs 41 #[.int .i64 A, .int .i64 B]

set_option maxRecDepth 100000 in
set_option maxHeartbeats 8000000 in
theorem tighten_any {w : World} {vo vl vc : Value} (n : Int) {o : List Sp} {l : List Tr} {c : List Sp} (ho : RowIn w vo 2 encP o) (hl : RowIn w vl 4 encR l) (hc : RowIn w vc 2 encP c) : Calls Try.prog 24 #[.int .i64 n, vo, vl, vc] w (spOut w (tightV n o l c) (tightE n o l c)) := by
  have hb0 : Below w.heap.size w (w.alloc (.cells #[.int .i64 n] 3)) := by repeat (first | (with_reducible exact Below.refl _ _) | (with_reducible assumption) | (with_reducible refine Below.drew ?_) | ((with_reducible refine Below.alloc ?_ ?_ _); rotate_left; (first | (with_reducible exact Nat.zero_le _) | (with_reducible exact Nat.le_refl _) | omega | (dsimp only; omega) | (simp only [World.size_alloc, World.size_setCell, World.size_drew]; omega))) | ((with_reducible refine Below.setCell ?_ ?_ _); rotate_left; (first | (with_reducible exact Nat.zero_le _) | (with_reducible exact Nat.le_refl _) | omega | (dsimp only; omega) | (simp only [World.size_alloc, World.size_setCell, World.size_drew]; omega))))
  have BN := Blk.new w 3 #[.int .i64 n]
  have has := fun w' (h : Below w.heap.size w w') => assign_any (w := w') n (ho.step h) (hl.step h) (hc.step h)
  by_cases h0 : tightE n o l c = 0
  · have hA : bchkA n o l c = 0 := by
      by_cases hA : bchkA n o l c = 0
      · exact hA
      · rw [tightE_chk hA] at h0; exact absurd h0 hA
    obtain ⟨hA0, hcl, hcv⟩ := bchkA_ok hA
    have hB := bchk_ok hA0
    have hn1 := hB.n1
    have hn8 := hB.n8
    have hfew := hB.few
    obtain ⟨N, rfl⟩ : ∃ N : Nat, n = N := ⟨n.toNat, by omega⟩
    have hcl' : c.length = N := by omega
    have hN8 : N ≤ 8 := by omega
    have hf : feasB N o l c = true := by
      cases hf : feasB N o l c with
      | true => rfl
      | false => rw [tightE_no hA (by rw [Int.toNat_natCast]; exact hf)] at h0; cases h0
    have hV : tightV N o l c = tightL N o l c := by unfold tightV; rw [if_pos h0, Int.toNat_natCast]
    have hol : o.length = N := by have := hB.len; omega
    have HED := Lib.hid fun w' (h : Below w.heap.size w w') => edges_any (w := w') (n := N) (o := o) (l := l) (c := c) (ho.step h) (hl.step h) (hc.step h) hB hcl' hcv
    have HELEN := Lib.hid (edges_len (c := c) hB)
    have HA := Lib.hid hA
    have HF := Lib.hid hf
    have HB := Lib.hid hB
    have HBD := Lib.hid fun k t a b (h : l[k]? = some t) (h0 : 0 ≤ a) (hab : a ≤ b) (hb : b ≤ 70368744177664) => edges_bd (c := c) (bok_set hB h h0 hab hb) hcl' hcv
    have HRG := Lib.hid fun k t m (h : l[k]? = some t) => range_of hA hf h m
    have HTI := Lib.hid fun k t (h : l[k]? = some t) => tight_in hA hf h
    have hTL : (tightL N o l c).length = l.length := by simp [tightL]
    have HTG := Lib.hid fun k t (h : l[k]? = some t) => (show (tightL N o l c)[k]? = some (tightAt N o l c t) from (by unfold tightL; rw [List.getElem?_map, h]; rfl))
    unfold AsgOut at has
    rw [h0] at has
    rw [h0, hV]
    have HAS := Lib.hid has
    have HOL := Lib.hid hol
    obtain ⟨ti, hi, hz, hsi, hby⟩ := info_of (P := Try.prog) (t := 41) (z := .agg #[.int .i64 0, .int .i64 0]) (size := 2) (bytes := 16) (by kernel_rfl)
    obtain ⟨la, cb, rfl, _, _, _, hl5⟩ := id hl.at_
    have HL := Lib.hid hl5
    clear h0 hA hf hB hA0 hcl hcl' hcv has hV ho hl hc hl5 hol
    have lN := BN.lt
    go_enter Try.func24, Try.ntmps24
    go_wp2_with fail
    clear lN
    refine (HAS.out _ hb0).mono ?_
    rintro e w1 ⟨hb1, vm, ms, rfl, hm, _, hms⟩
    have hh := hms (by first | trivial | rfl)
    replace BN := BN.step hb1
    replace hb1 := hb0.trans (hb1.mono hb0.size)
    have k1 := BN.cell 0
    have lN := BN.lt
    go_wp2_with fail
    clear k1 lN
    refine (HED.out _ hb1).mono ?_
    rintro e w2 ⟨ve, rfl, own, hb2⟩
    have hgw1 := BN.lt
    replace BN := BN.step hb2
    replace hm := hm.step hb2
    rcases ownsRow_open own with ⟨_, q, _⟩ | ⟨ge, cap, cur, rfl, hge, BE, hnc, hcm, hcs, hcur⟩
    · exfalso
      have h1 := openEds_len N o N
      simp only [edgesL, List.length_append] at q
      omega
    have hR : Rw5 cur (edgesL N o l c) := Rw5.of_row BE (RowIn.of_own encE_len own)
    replace hb2 := hb1.trans (hb2.mono hb1.size)
    have hs2 := hb2.size
    clear own hcs hcur
    have hgBE : w2.heap.size ≠ ge := by have := BE.lt; omega
    have hgNE : w.heap.size ≠ ge := by omega
    have hsz2 : w.heap.size ≤ w2.heap.size := hs2
    have hb3 := hb2.alloc hs2 (.cells #[.slice (some ⟨ge, 0, none⟩) (edgesL N o l c).length cap] 55)
    have BB := Blk.new w2 55 #[.slice (some ⟨ge, 0, none⟩) (edgesL N o l c).length cap]
    replace BN := BN.alloc (.cells #[.slice (some ⟨ge, 0, none⟩) (edgesL N o l c).length cap] 55)
    replace BE := BE.alloc (.cells #[.slice (some ⟨ge, 0, none⟩) (edgesL N o l c).length cap] 55)
    replace hm := hm.step (Below.alloc (Below.refl w2.heap.size w2) (Nat.le_refl _) (.cells #[.slice (some ⟨ge, 0, none⟩) (edgesL N o l c).length cap] 55))
    go_wp2_with fail
    generalize w2.alloc (.cells #[.slice (some ⟨ge, 0, none⟩) (edgesL N o l c).length cap] 55) = w3 at *
    have HT := Lib.hid fun k t a b wr (h : l[k]? = some t) (h1 : t.mass.lo ≤ a) (h2 : a ≤ b) (h3 : b ≤ t.mass.hi) (hw : Below w3.heap.size w3 wr) =>
      (tight1_any hN8 (BB.step hw) (BN.step hw) (BE.step hw) hR hnc hcm HELEN.out hgBE hgNE k (edges_get h) a b (by
        have hq := tr_mass HB.out h
        have := HBD.out k t a b h (by omega) h2 (by omega)
        rw [← edges_set_eq h] at this
        exact this)).mono fun e w' ho => t1_feas HA.out HF.out h h1 h2 h3 ho
    obtain ⟨ma, cm, rfl, m1, m2, _, hm5⟩ := hm.at_
    have HM := Lib.hid hm5
    have hml := (holds_tr hh).2.1
    have HH := Lib.hid hh
    have hTLl := hTL
    generalize tightL N o l c = TL at *
    have HTL := Lib.hid hTLl
    have HML := Lib.hid hml
    clear hm hm5 hh hms hTLl hTL hml hR hnc hcm m1 m2 HAS HED
    go_loopw [14, 40] (fun v i wr => TtRel w3 TL v i wr) (fun _ i _ => (l.length - intOf i).toNat)
    case atStart => exact ⟨0, Nat.zero_le _, rfl, Below.refl _ _, ⟨by simp [rowOf], .inl ⟨rfl, rfl⟩⟩⟩
    case round =>
      obtain ⟨k, hk, rfl, hb, own⟩ := hrel
      have hwz := hb.size
      rw [HTL.out] at hk
      by_cases hlt : k < l.length
      · obtain ⟨x, hx⟩ : ∃ x, l[k]? = some x := ⟨_, List.getElem?_eq_getElem hlt⟩
        obtain ⟨lb, lo, hlo, hlz, hlc⟩ := HL.out (by rintro rfl; simp at hlt)
        have hml : ms.length = N + l.length := by have := HML.out; omega
        have hmx : ms[N + k]? = some (ms.getD (N + k) 0) := getD_i (by omega)
        obtain ⟨mb, mo, hmo, hmz, hmc⟩ := HM.out (by rintro rfl; simp at hmx)
        subst hlo hmo
        have hkl : (k : Int) < l.length := by omega
        have hk0 : (0 : Int) ≤ k := by omega
        have hkn0 : (0 : Int) ≤ (N : Int) + k := by omega
        have hknm : (N : Int) + k < ms.length := by omega
        have hw0 : Below w.heap.size w wr := hb3.trans (hb.mono hb3.size)
        have htm := tr_mass HB.out hx
        have hti := HTI.out k x hx
        have hmk := (HRG.out k x (ms.getD (N + k) 0) hx).2 ⟨ms, HH.out, by rw [HOL.out]⟩
        have htg := HTG.out k x hx
        have em : World.cell? w3 ⟨mb, mo + (N + k), none⟩ = some (.int .i64 (ms.getD (N + k) 0)) := by have := hmc (N + k) _ hmx 0 (by omega); rw [Nat.mul_one, Nat.add_zero] at this; exact this
        have hTx := fun a b wr h1 h2 h3 hw => HT.out k x a b wr hx h1 h2 h3 hw
        have hto : TL.take (k + 1) = TL.take k ++ [tightAt N o l c x] := take_snoc htg
        generalize tightAt N o l c x = T at *
        obtain ⟨tl, th⟩ := T
        obtain ⟨xf, xt, m⟩ := x
        obtain ⟨lo1, hi1⟩ := m
        dsimp only at htm hti hmk hTx
        obtain ⟨q1, q2, q3, q4, q5, q6, q7, _⟩ := htm
        obtain ⟨q, rfl⟩ : ∃ q : Nat, xf = q := ⟨xf.toNat, by omega⟩
        obtain ⟨p, rfl⟩ : ∃ p : Nat, xt = p := ⟨xt.toNat, by omega⟩
        obtain ⟨i1, i2, i3⟩ := hti
        obtain ⟨j1, j2⟩ := hmk
        have e0 : World.cell? wr ⟨lb, lo + k * 4, none⟩ = some (.int .i64 q) := (hw0.cell (p := ⟨lb, lo + k * 4, none⟩) hlz).trans (hlc k _ hx 0 (by omega))
        have e1 : World.cell? wr ⟨lb, lo + k * 4 + 1, none⟩ = some (.int .i64 p) := (hw0.cell (p := ⟨lb, lo + k * 4 + 1, none⟩) hlz).trans (hlc k _ hx 1 (by omega))
        have e2 : World.cell? wr ⟨lb, lo + k * 4 + 2, none⟩ = some (.int .i64 lo1) := (hw0.cell (p := ⟨lb, lo + k * 4 + 2, none⟩) hlz).trans (hlc k _ hx 2 (by omega))
        have e3 : World.cell? wr ⟨lb, lo + k * 4 + 3, none⟩ = some (.int .i64 hi1) := (hw0.cell (p := ⟨lb, lo + k * 4 + 3, none⟩) hlz).trans (hlc k _ hx 3 (by omega))
        have HTX := Lib.hid hTx
        have HEM := Lib.hid em
        have HTO := Lib.hid hto
        have HMLn := Lib.hid hml
        clear hTx hto hml htg hlc hmc hx hmx q4 q5 q6 q7 hw0
        generalize ms.getD (N + k) 0 = mk at *
        go_wp2_with fail
        clear e0 e1 e2 e3
        have HWB := Lib.hid hb
        have BX := Blk.new wr 43 #[.int .i64 q, .int .i64 p, .int .i64 lo1, .int .i64 hi1]
        have hbv := Below.alloc (Below.refl wr.heap.size wr) (Nat.le_refl _) (.cells #[.int .i64 q, .int .i64 p, .int .i64 lo1, .int .i64 hi1] 43)
        have hwy : (wr.alloc (.cells #[.int .i64 q, .int .i64 p, .int .i64 lo1, .int .i64 hi1] 43)).heap.size = wr.heap.size + 1 := by simp
        have BN2 := BN.step (hb.alloc hwz (.cells #[.int .i64 q, .int .i64 p, .int .i64 lo1, .int .i64 hi1] 43))
        replace em := ((hb.alloc hwz (.cells #[.int .i64 q, .int .i64 p, .int .i64 lo1, .int .i64 hi1] 43)).cell (p := ⟨mb, mo + (N + k), none⟩) hmz).trans em
        generalize wr.alloc (.cells #[.int .i64 q, .int .i64 p, .int .i64 lo1, .int .i64 hi1] 43) = wy1 at *
        have hmz2 : mb < wy1.heap.size := by omega
        have k1 : wy1.cell? ⟨w.heap.size, 0, none⟩ = some (.int .i64 (N : Int)) := BN2.cell 0
        have lN := BN2.lt
        have cx2 : wy1.cell? ⟨wr.heap.size, 2, none⟩ = some (.int .i64 lo1) := BX.cell 2
        have cx3 : wy1.cell? ⟨wr.heap.size, 3, none⟩ = some (.int .i64 hi1) := BX.cell 3
        have lx := BX.lt
        generalize hgNe : w.heap.size = gN at *
        have HGN := Lib.hid hgNe
        clear hgNe
        generalize hgxe : wr.heap.size = gx at *
        have HGX := Lib.hid hgxe
        clear hgxe
        have al1 := fun (p : Addr) (h : p.block < wy1.heap.size) => (Below.alloc (Below.refl wy1.heap.size wy1) (Nat.le_refl _) (.cells #[.int .i64 0, .int .i64 0] 41)).cell (p := p) h
        have k1' := (al1 ⟨gN, 0, none⟩ lN).trans k1
        have cx2' := (al1 ⟨gx, 2, none⟩ lx).trans cx2
        have cx3' := (al1 ⟨gx, 3, none⟩ lx).trans cx3
        have em' := (al1 ⟨mb, mo + (N + k), none⟩ hmz2).trans em
        clear al1
        go_region
        clear k1 lN cx2 cx3 lx k1' cx2' cx3' em'
        have BS := (Blk.new wy1 41 #[.int .i64 lo1, .int .i64 mk]).drew
        replace BX := (BX.alloc (.cells #[.int .i64 lo1, .int .i64 mk] 41)).drew
        replace hbv := (hbv.alloc (by omega) (.cells #[.int .i64 lo1, .int .i64 mk] 41)).drew
        rw [hwy] at BS
        clear hwy hmz2 BN2 em
        generalize (wy1.alloc (.cells #[.int .i64 lo1, .int .i64 mk] 41)).drew = wy2 at *
        go_wp2_with fail
        obtain ⟨wo, rfl⟩ : ∃ wo, wo = wr := ⟨wr, rfl⟩
        go_loopg [18] (mk - lo1).toNat (fun m' x wz => SeRel wo gx (gx + 1) #[.int .i64 q, .int .i64 p, .int .i64 lo1, .int .i64 hi1] lo1 tl mk m' x wz)
        case atStart => exact ⟨lo1, mk, Int.le_refl _, i1, j1, Int.le_refl _, rfl, hbv, BX, BS⟩
        case round =>
          clear hbv BX BS
          obtain ⟨A, B, a1, a2, a3, a4, hm', hbv, BX, BS⟩ := hrel
          have HM' := Lib.hid hm'
          clear hm'
          have k0 : wr.cell? ⟨gx + 1, 0, none⟩ = some (.int .i64 A) := BS.cell 0
          have k1 : wr.cell? ⟨gx + 1, 1, none⟩ = some (.int .i64 B) := BS.cell 1
          have cx2 : wr.cell? ⟨gx, 2, none⟩ = some (.int .i64 lo1) := BX.cell 2
          have cx3 : wr.cell? ⟨gx, 3, none⟩ = some (.int .i64 hi1) := BX.cell 3
          by_cases hAB : A < B
          · have hwb : Below w3.heap.size w3 wr := HWB.out.trans (hbv.mono hwz)
            have md1 : A ≤ A + (B - A) / 2 := by omega
            have md2 : A + (B - A) / 2 ≤ B := by omega
            have hcall := HTX.out (lo1) (A + (B - A) / 2) wr (by omega) (by omega) (by omega) hwb
            have lS := BS.lt
            have fS := BS.free
            by_cases hcd : tl ≤ A + (B - A) / 2
            · rw [decide_eq_true (by omega)] at hcall
              go_wp2_with fail
              refine hcall.mono ?_
              rintro e w5 ⟨rfl, hb5⟩
              clear k0 k1 cx2 cx3 lS fS
              replace hbv := hbv.trans (hb5.mono (Nat.le_of_lt BX.lt))
              replace BS := BS.step hb5
              replace BX := BX.step hb5
              have k0 : w5.cell? ⟨gx + 1, 0, none⟩ = some (.int .i64 A) := BS.cell 0
              have k1 : w5.cell? ⟨gx + 1, 1, none⟩ = some (.int .i64 B) := BS.cell 1
              have lS := BS.lt
              have fS := BS.free
              go_wp2_with fail
              go_roundg ((A + (B - A) / 2) - (A)).toNat
              case measure => have := HM'.out; omega
              case rel => exact ⟨A, A + (B - A) / 2, by omega, by omega, by omega, by omega, rfl, hbv.setCell (p := ⟨gx + 1, 1, none⟩) (Nat.le_succ _) _, BX.far (p := ⟨gx + 1, 1, none⟩) (by dsimp only; omega) _, BS.put 1 (.int .i64 (A + (B - A) / 2))⟩
            · rw [decide_eq_false (by omega)] at hcall
              go_wp2_with fail
              refine hcall.mono ?_
              rintro e w5 ⟨rfl, hb5⟩
              clear k0 k1 cx2 cx3 lS fS
              replace hbv := hbv.trans (hb5.mono (Nat.le_of_lt BX.lt))
              replace BS := BS.step hb5
              replace BX := BX.step hb5
              have k0 : w5.cell? ⟨gx + 1, 0, none⟩ = some (.int .i64 A) := BS.cell 0
              have k1 : w5.cell? ⟨gx + 1, 1, none⟩ = some (.int .i64 B) := BS.cell 1
              have lS := BS.lt
              have fS := BS.free
              go_wp2_with fail
              go_roundg ((B) - (A + (B - A) / 2 + 1)).toNat
              case measure => have := HM'.out; omega
              case rel => exact ⟨A + (B - A) / 2 + 1, B, by omega, by omega, by omega, by omega, rfl, hbv.setCell (p := ⟨gx + 1, 0, none⟩) (Nat.le_succ _) _, BX.far (p := ⟨gx + 1, 0, none⟩) (by dsimp only; omega) _, BS.put 0 (.int .i64 (A + (B - A) / 2 + 1))⟩
          · obtain rfl : A = tl := by omega
            obtain rfl : A = B := by omega
            have hwb : Below w3.heap.size w3 wr := HWB.out.trans (hbv.mono hwz)
            have kN : wr.cell? ⟨gN, 0, none⟩ = some (.int .i64 (N : Int)) := (BN.step hwb).cell 0
            have lN := (BN.step hwb).lt
            have lX := BX.lt
            have lS := BS.lt
            have fS := BS.free
            have cx3 : wr.cell? ⟨gx, 3, none⟩ = some (.int .i64 hi1) := BX.cell 3
            have em : World.cell? wr ⟨mb, mo + (N + k), none⟩ = some (.int .i64 mk) := (hwb.cell (p := ⟨mb, mo + (N + k), none⟩) hmz).trans HEM.out
            have lM := Nat.lt_of_lt_of_le hmz hwb.size
            have nNS : gN ≠ gx + 1 := by have := BN.lt; omega
            have nMS : mb ≠ gx + 1 := by omega
            go_wp2_with fail
            go_region
            clear k0 k1 cx2 cx3 kN lN lX lS fS em lM nNS nMS
            replace BS := ((BS.put 0 (.int .i64 mk)).put 1 (.int .i64 hi1)).drew
            replace BX := ((BX.far (p := ⟨gx + 1, 0, none⟩) (by dsimp only; omega) (.int .i64 mk)).far (p := ⟨gx + 1, 1, none⟩) (by dsimp only; omega) (.int .i64 hi1)).drew
            replace hbv := ((hbv.setCell (p := ⟨gx + 1, 0, none⟩) (Nat.le_succ _) (.int .i64 mk)).setCell (p := ⟨gx + 1, 1, none⟩) (Nat.le_succ _) (.int .i64 hi1)).drew
            generalize ((wr.setCell ⟨gx + 1, 0, none⟩ (.int .i64 mk)).setCell ⟨gx + 1, 1, none⟩ (.int .i64 hi1)).drew = wy3 at *
            clear hwb
            go_wp2_with fail
            go_loopg [20] (hi1 - mk).toNat (fun m' x wz => SeRel wo gx (gx + 1) #[.int .i64 q, .int .i64 p, .int .i64 lo1, .int .i64 hi1] mk th hi1 m' x wz)
            case atStart => exact ⟨mk, hi1, Int.le_refl _, j2, i2, Int.le_refl _, rfl, hbv, BX, BS⟩
            case round =>
              clear hbv BX BS HM'
              obtain ⟨A', B, a1, a2, a3, a4, hm', hbv, BX, BS⟩ := hrel
              have HM' := Lib.hid hm'
              clear hm'
              have k0 : wr.cell? ⟨gx + 1, 0, none⟩ = some (.int .i64 A') := BS.cell 0
              have k1 : wr.cell? ⟨gx + 1, 1, none⟩ = some (.int .i64 B) := BS.cell 1
              have cx2 : wr.cell? ⟨gx, 2, none⟩ = some (.int .i64 lo1) := BX.cell 2
              have cx3 : wr.cell? ⟨gx, 3, none⟩ = some (.int .i64 hi1) := BX.cell 3
              by_cases hAB : A' < B
              · have hwb : Below w3.heap.size w3 wr := HWB.out.trans (hbv.mono hwz)
                have md1 : A' ≤ B - (B - A') / 2 := by omega
                have md2 : B - (B - A') / 2 ≤ B := by omega
                have hcall := HTX.out (B - (B - A') / 2) (hi1) wr (by omega) (by omega) (by omega) hwb
                have lS := BS.lt
                have fS := BS.free
                by_cases hcd : B - (B - A') / 2 ≤ th
                · rw [decide_eq_true (by omega)] at hcall
                  go_wp2_with fail
                  refine hcall.mono ?_
                  rintro e w5 ⟨rfl, hb5⟩
                  clear k0 k1 cx2 cx3 lS fS
                  replace hbv := hbv.trans (hb5.mono (Nat.le_of_lt BX.lt))
                  replace BS := BS.step hb5
                  replace BX := BX.step hb5
                  have k0 : w5.cell? ⟨gx + 1, 0, none⟩ = some (.int .i64 A') := BS.cell 0
                  have k1 : w5.cell? ⟨gx + 1, 1, none⟩ = some (.int .i64 B) := BS.cell 1
                  have lS := BS.lt
                  have fS := BS.free
                  go_wp2_with fail
                  go_roundg ((B) - (B - (B - A') / 2)).toNat
                  case measure => have := HM'.out; omega
                  case rel => exact ⟨B - (B - A') / 2, B, by omega, by omega, by omega, by omega, rfl, hbv.setCell (p := ⟨gx + 1, 0, none⟩) (Nat.le_succ _) _, BX.far (p := ⟨gx + 1, 0, none⟩) (by dsimp only; omega) _, BS.put 0 (.int .i64 (B - (B - A') / 2))⟩
                · rw [decide_eq_false (by omega)] at hcall
                  go_wp2_with fail
                  refine hcall.mono ?_
                  rintro e w5 ⟨rfl, hb5⟩
                  clear k0 k1 cx2 cx3 lS fS
                  replace hbv := hbv.trans (hb5.mono (Nat.le_of_lt BX.lt))
                  replace BS := BS.step hb5
                  replace BX := BX.step hb5
                  have k0 : w5.cell? ⟨gx + 1, 0, none⟩ = some (.int .i64 A') := BS.cell 0
                  have k1 : w5.cell? ⟨gx + 1, 1, none⟩ = some (.int .i64 B) := BS.cell 1
                  have lS := BS.lt
                  have fS := BS.free
                  go_wp2_with fail
                  go_roundg ((B - (B - A') / 2 - 1) - (A')).toNat
                  case measure => have := HM'.out; omega
                  case rel => exact ⟨A', B - (B - A') / 2 - 1, by omega, by omega, by omega, by omega, rfl, hbv.setCell (p := ⟨gx + 1, 1, none⟩) (Nat.le_succ _) _, BX.far (p := ⟨gx + 1, 1, none⟩) (by dsimp only; omega) _, BS.put 1 (.int .i64 (B - (B - A') / 2 - 1))⟩
              · obtain rfl : A' = th := by omega
                obtain rfl : A' = B := by omega
                have hwb : Below w3.heap.size w3 wr := HWB.out.trans (hbv.mono hwz)
                have hsb := hwb.size
                have lS := BS.lt
                have own3 := ownsRow_step own (by rw [HGX.out]; exact hbv)
                have hr0 : ∀ jj, Value.ownBlock u14 = some jj → w3.heap.size ≤ jj := fun jj hj => by
                  rcases ownsRow_open own with ⟨rfl, _⟩ | ⟨gg, cc, uu, rfl, hgg, _⟩
                  · cases hj
                  · have hj' := Option.some.inj hj; dsimp only at hj'; omega
                go_wp2_with (at_builtin; refine wpList_append_any _ rfl _ _ _ rfl w3.heap.size 41 ti _ 2 16 Try.underlying22 hi hz hsi hby rfl (by omega) _ k _ rfl (ownsRow_step own3 (Below.alloc (Below.refl _ _) (Nat.le_refl _) (.cells #[.int .i64 A, .int .i64 A'] 41))) _ 1 (encP ⟨A, A'⟩) rfl (Src.of_blk (Blk.new _ 41 #[.int .i64 A, .int .i64 A']) 1) rfl (fun u hu => oneP [⟨A, A'⟩] u (by simpa [rowOf] using hu)) (by simp [maxLen]; omega) (by omega) (by simp; omega) ?_; intro v5 w5 own5 hg5 hat5)
                have hb5 : Below w3.heap.size w3 w5 := Below.grown (hwb.alloc hsb (.cells #[.int .i64 A, .int .i64 A'] 41)) hg5 (by simp; omega) hr0
                clear hwb own own3
                have hgNe := HGN.out
                subst hgNe
                go_roundw
                case rel => exact ⟨k + 1, by rw [HTL.out]; exact hlt, by simp, hb5, by rw [HTO.out, rowOf_append]; simpa [rowOf] using own5⟩
                case measure => simp [intOf]; omega
      · obtain rfl : k = l.length := by omega
        have hLl := HTL.out
        rw [← hLl, List.take_length] at own
        have R0 := RowIn.of_own encP_len own
        clear own hLl
        go_wp2_with fail
        go_ret2
        exact ⟨_, rfl, R0, hb3.trans (hb.mono hb3.size)⟩
  · have hV : tightV n o l c = [] := by unfold tightV; rw [if_neg h0]
    rw [hV]
    have h0' : (tightE n o l c != 0) = true := by simpa using h0
    have HN := Lib.hid h0
    unfold AsgOut at has
    clear hV h0 ho hl hc
    generalize tightE n o l c = E at *
    have HAS := Lib.hid has
    clear has
    have lN := BN.lt
    go_enter Try.func24, Try.ntmps24
    go_wp2_with fail
    refine (HAS.out _ hb0).mono ?_
    rintro e w1 ⟨hb1, v, ms, rfl, hm, hms, _⟩
    go_wp2_with fail
    go_ret2
    exact ⟨_, rfl, RowIn.nil _ _ _, hb0.trans (hb1.mono hb0.size)⟩

end Go.Proofs.Ythaoclocachbaaa
