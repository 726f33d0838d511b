/- The walk of TopMeasured. -/
import Derived.Test.YtapfihlfnaebhaaMeaF
import Derived.Test.YtapfihlfnaebhaaMeaG
namespace Go.Proofs.Ytapfihlfnaebhaa
set_option linter.unusedVariables false
set_option linter.unusedSimpArgs false
open Go.RowKit

theorem own_ltM {w : World} {base : Nat} {e : TypeId} {size n : Nat} {v : Value} {xs : List Value} (h : w.ownsRow base e size v n xs) : ∀ j, v.ownBlock = some j → j < w.heap.size := by
  intro j hj
  rcases ownsRow_open h with ⟨rfl, _⟩ | ⟨g, cap, cur, rfl, _, hB, _⟩
  · cases hj
  · simp only [Value.ownBlock, Option.some.injEq] at hj
    subst hj
    exact hB.lt
/-- Rows in different blocks. -/
def Apart (u v : Value) : Prop := ∀ j, u.ownBlock = some j → v.ownBlock ≠ some j
theorem Apart.symm {u v : Value} (h : Apart u v) : Apart v u := fun j hj hu => h j hu hj
theorem Apart.nil_left (v : Value) : Apart (.slice none 0 0) v := fun j hj => by cases hj
theorem Apart.grow {W : World} {base n C : Nat} {e : TypeId} {u v v' : Value} {xs : List Value} (h : Apart u v) (hu : W.ownsRow base e C u n xs) (hat : v'.ownBlock = v.ownBlock ∨ v'.ownBlock = some W.heap.size) : Apart u v' := fun j hj hv => by
  rcases hat with h1 | h1
  · rw [h1] at hv; exact h j hj hv
  · rw [h1] at hv
    have := own_ltM hu j hj
    injection hv with hv
    omega
theorem own_grown {W W' : World} {base n C : Nat} {e : TypeId} {u v : Value} {xs : List Value} (hu : W.ownsRow base e C u n xs) (hg : W.grownBy W' v.ownBlock) (h : Apart u v) : W'.ownsRow base e C u n xs := by
  refine ⟨hu.1, ?_⟩
  rcases hu.2 with h1 | ⟨g, cap, cur, h1, h2, h3, h4⟩
  · exact .inl h1
  · have hlt : g < W.heap.size := by
      rcases Nat.lt_or_ge g W.heap.size with h5 | h5
      · exact h5
      · simp [Array.getElem?_eq_none h5] at h3
    exact .inr ⟨g, cap, cur, h1, h2, (hg.block g hlt fun hh => h g (by rw [h1]; rfl) (hh.symm)).trans h3, h4⟩
theorem oneQM (x : Pr) : ∀ u ∈ encQ x, u.oneCell' = true := by
  intro u hu
  simp [encQ] at hu
  rcases hu with rfl | rfl | rfl | rfl | rfl <;> rfl
theorem oneTM (x : Tk) : ∀ u ∈ encT x, u.oneCell' = true := by
  intro u hu
  simp [encT] at hu
  rcases hu with rfl | rfl | rfl | rfl | rfl | rfl <;> rfl
theorem encT_lenM (s : Tk) : (encT s).length = 6 := rfl
theorem tk_okM {S : List Sc} {t : Int} {x : Ld} {i : Nat} (a0 : 0 ≤ x.a) (a1 : x.a < S.length) (ca : cldS (S.getD x.a.toNat sc0) (x.tare + x.mass) x.ga t = true) (ct : cldS (S.getD x.a.toNat sc0) x.tare x.ta t = true) (hi : i < 1000000) : TkOk S (tkOf t i x) where
  id1 := by show (1 : Int) ≤ i + 1; omega
  id2 := by show (i : Int) + 1 ≤ 1000000; omega
  s0 := a0
  s1 := a1
  tg := cld_trnS ca
  tt := cld_trnS ct
  rp := rfl
def encL (x : Ld) : List Value := [.int .i64 x.a, .int .i64 x.b, .int .i64 x.tare, .int .i64 x.mass, .int .i64 x.ga, .int .i64 x.gb, .int .i64 x.ta, .int .i64 x.tb]
def decL (x : List Int) : Ld := ⟨x.getD 0 0, x.getD 1 0, x.getD 2 0, x.getD 3 0, x.getD 4 0, x.getD 5 0, x.getD 6 0, x.getD 7 0⟩
theorem decL_enc (x : List Int) (h : x.length = 8) : encL (decL x) = x.map (Value.int .i64) := by
  match x, h with
  | [a, b, c, d, e, f, g, h], _ => rfl
def MsRel (w : World) (S : List Sc) (i : Value) (wr : World) : Prop := ∃ k : Nat, k ≤ S.length ∧ i = .int .i64 k ∧ (∀ j, j < k → chkS (S.getD j sc0) = 0) ∧ Below w.heap.size w wr
def MlRel (w : World) (S : List Sc) (t : Int) (l : List Ld) (v8 v9 m i : Value) (wr : World) : Prop :=
  ∃ k : Nat, k ≤ l.length ∧ i = .int .i64 k ∧ m = .int .i64 (sumM l k) ∧ (∀ j, j < k → LdOk S t (l.getD j ld0)) ∧ Below w.heap.size w wr ∧
    wr.ownsRow w.heap.size 61 5 v8 k (rowOf encQ (prs t l k)) ∧ wr.ownsRow w.heap.size 63 6 v9 k (rowOf encT (tks t l k)) ∧ Apart v8 v9
set_option maxRecDepth 100000 in
set_option maxHeartbeats 8000000 in
theorem law_meas {w : World} {vs vl : Value} {S : List Sc} {l : List Ld} (hs : RowIn w vs 6 encS S) (t : Int) (hl : RowIn w vl 8 encL l) : Calls Try.prog 5 #[vs, .int .i64 t, vl] w fun e w' => e = .returned (.bool true) ∧ Below w.heap.size w w' := by
  have hsr := hs
  obtain ⟨sa, cs, rfl, s1, s2, _, hs5⟩ := hs.at_
  obtain ⟨la, cl, rfl, l1, l2, _, hl5⟩ := hl.at_
  unfold maxLen at s2 l2
  obtain ⟨ti, hi, hz, hsi, hby⟩ := info_of (P := Try.prog) (t := 61) (z := .agg #[.int .i64 0, .int .i64 0, .int .i64 0, .int .i64 0, .int .i64 0]) (size := 5) (bytes := 40) (by kernel_rfl)
  obtain ⟨tj, ji, jz, jsi, jby⟩ := info_of (P := Try.prog) (t := 63) (z := .agg #[.int .i64 0, .int .i64 0, .int .i64 0, .int .i64 0, .int .i64 0, .int .i64 0]) (size := 6) (bytes := 48) (by kernel_rfl)
  have HS := Lib.hid hs5
  have HL := Lib.hid hl5
  have HSR := Lib.hid hsr
  clear hs5 hl5 hs hl hsr
  by_cases g1 : (S.length : Int) > 6
  · go_enter Try.func5, Try.ntmps5
    go_wp2_with fail
    refine (awakeM_any _).mono ?_
    rintro e wa ⟨rfl, hba⟩
    go_wp2_with fail
    go_ret
    exact ⟨rfl, hba⟩
  by_cases g2 : (l.length : Int) > 20
  · go_enter Try.func5, Try.ntmps5
    go_wp2_with fail
    refine (awakeM_any _).mono ?_
    rintro e wa ⟨rfl, hba⟩
    go_wp2_with fail
    go_ret
    exact ⟨rfl, hba⟩
  go_enter Try.func5, Try.ntmps5
  go_wp2_with fail
  go_loopw [33] (fun i wr => MsRel w S i wr) (fun i _ => (S.length - intOf i).toNat)
  case atStart => exact ⟨0, Nat.zero_le _, rfl, fun j hj => absurd hj (Nat.not_lt_zero _), Below.refl _ _⟩
  case round =>
    obtain ⟨k, hk, rfl, hok, hb⟩ := hrel
    have hwz := hb.size
    by_cases hlt : k < S.length
    · have hx := getD_of (d := sc0) hlt
      obtain ⟨ob, oo, rfl, hoz, hoc⟩ := HS.out (by rintro rfl; simp at hlt)
      have hkl : (k : Int) < S.length := by omega
      have hk0 : (0 : Int) ≤ k := by omega
      have ec := hoc k _ hx
      have q : ∀ j, wr.cell? ⟨ob, j, none⟩ = w.cell? ⟨ob, j, none⟩ := fun j => hb.cell (p := ⟨ob, j, none⟩) hoz
      have hok2 : chkS (S.getD k sc0) = 0 → ∀ j, j < k + 1 → chkS (S.getD j sc0) = 0 := fun h j hj => by
        by_cases e : j = k
        · rw [e]; exact h
        · exact hok j (by omega)
      have HOK := Lib.hid hok2
      clear hx hoc hok hok2
      generalize S.getD k sc0 = x at *
      have e0 : World.cell? wr ⟨ob, oo + k * 6, none⟩ = some (.int .i64 x.a) := (q _).trans (ec 0 (by omega))
      have e1 : World.cell? wr ⟨ob, oo + k * 6 + 1, none⟩ = some (.int .i64 x.b) := (q _).trans (ec 1 (by omega))
      have e2 : World.cell? wr ⟨ob, oo + k * 6 + 2, none⟩ = some (.int .i64 x.c) := (q _).trans (ec 2 (by omega))
      have e3 : World.cell? wr ⟨ob, oo + k * 6 + 3, none⟩ = some (.int .i64 x.d) := (q _).trans (ec 3 (by omega))
      have e4 : World.cell? wr ⟨ob, oo + k * 6 + 4, none⟩ = some (.int .i64 x.e) := (q _).trans (ec 4 (by omega))
      have e5 : World.cell? wr ⟨ob, oo + k * 6 + 5, none⟩ = some (.int .i64 x.f) := (q _).trans (ec 5 (by omega))
      clear ec q
      have hv := fun w => rcheck_any x.a x.b x.c x.d x.e x.f w
      by_cases h0 : chkS x = 0
      · rw [show chk x.a x.b x.c x.d x.e x.f = 0 from h0] at hv
        have H0 := Lib.hid h0
        clear h0
        go_wp2_with fail
        refine (hv _).mono ?_
        rintro e w5 ⟨rfl, hb5⟩
        go_wp2_with fail
        go_roundw
        case rel => exact ⟨k + 1, hlt, by simp, HOK.out H0.out, hb.trans (hb5.mono hb.size)⟩
        case measure => simp [intOf]; omega
      · have h0' : (chkS x != 0) = true := by simpa using h0
        rw [show chk x.a x.b x.c x.d x.e x.f = chkS x from rfl] at hv
        generalize chkS x = E at *
        go_wp2_with fail
        refine (hv _).mono ?_
        rintro e w5 ⟨rfl, hb5⟩
        go_wp2_with fail
        refine (awakeM_any _).mono ?_
        rintro e wa ⟨rfl, hba⟩
        go_wp2_with fail
        go_ret
        exact ⟨rfl, hb.trans ((hb5.trans (hba.mono hb5.size)).mono hb.size)⟩
    · obtain rfl : k = S.length := by omega
      have hokS : ∀ s ∈ S, chkS s = 0 := fun s hs => by
        obtain ⟨j, hj, rfl⟩ := List.getElem_of_mem hs
        have e := (List.getElem?_eq_getElem hj).symm.trans (getD_of (d := sc0) hj)
        injection e with e
        rw [e]
        exact hok j hj
      have HCK := Lib.hid hokS
      clear hokS
      clear hok hlt hk
      go_wp2_with fail
      go_loopw [8, 9, 10, 46] (fun v8 v9 m i wr => MlRel w S t l v8 v9 m i wr) (fun _ _ _ i _ => (l.length - intOf i).toNat)
      case atStart => exact ⟨0, Nat.zero_le _, rfl, rfl, fun j hj => absurd hj (Nat.not_lt_zero _), hb, ⟨by simp [rowOf, prs], .inl ⟨rfl, rfl⟩⟩, ⟨by simp [rowOf, tks], .inl ⟨rfl, rfl⟩⟩, Apart.nil_left _⟩
      clear hb hwz
      case round =>
        obtain ⟨k, hk, rfl, rfl, hok, hb, own8, own9, hap⟩ := hrel
        have hwz := hb.size
        by_cases hlt : k < l.length
        · have hx := getD_of (d := ld0) hlt
          obtain ⟨lb, lo, rfl, hlz, hlc⟩ := HL.out (by rintro rfl; simp at hlt)
          have hkl : (k : Int) < l.length := by omega
          have hk0 : (0 : Int) ≤ k := by omega
          have ec := hlc k _ hx
          have q : ∀ j, wr.cell? ⟨lb, j, none⟩ = w.cell? ⟨lb, j, none⟩ := fun j => hb.cell (p := ⟨lb, j, none⟩) hlz
          have hok2 : LdOk S t (l.getD k ld0) → ∀ j, j < k + 1 → LdOk S t (l.getD j ld0) := fun h j hj => by
            by_cases e : j = k
            · rw [e]; exact h
            · exact hok j (by omega)
          have hsm : sumM l (k + 1) = sumM l k + (l.getD k ld0).mass := rfl
          have htk : tks t l (k + 1) = tks t l k ++ [tkOf t k (l.getD k ld0)] := rfl
          have hpr : prs t l (k + 1) = prs t l k ++ [prOf t (l.getD k ld0)] := rfl
          obtain ⟨-, -, -, -, sm0, sm1⟩ := nets_tot (k := k) (by omega) hok
          have HOK := Lib.hid hok2
          have HSM := Lib.hid hsm
          have HTK := Lib.hid htk
          have HPR := Lib.hid hpr
          have O8 := Lib.hid own8
          have O9 := Lib.hid own9
          clear hx hlc hok hok2 hsm htk hpr own8 own9
          generalize l.getD k ld0 = x at *
          obtain ⟨xa, xb, xt, xm, xga, xgb, xta, xtb⟩ := x
          have e0 : World.cell? wr ⟨lb, lo + k * 8, none⟩ = some (.int .i64 xa) := (q _).trans (ec 0 (by omega))
          have e1 : World.cell? wr ⟨lb, lo + k * 8 + 1, none⟩ = some (.int .i64 xb) := (q _).trans (ec 1 (by omega))
          have e2 : World.cell? wr ⟨lb, lo + k * 8 + 2, none⟩ = some (.int .i64 xt) := (q _).trans (ec 2 (by omega))
          have e3 : World.cell? wr ⟨lb, lo + k * 8 + 3, none⟩ = some (.int .i64 xm) := (q _).trans (ec 3 (by omega))
          have e4 : World.cell? wr ⟨lb, lo + k * 8 + 4, none⟩ = some (.int .i64 xga) := (q _).trans (ec 4 (by omega))
          have e5 : World.cell? wr ⟨lb, lo + k * 8 + 5, none⟩ = some (.int .i64 xgb) := (q _).trans (ec 5 (by omega))
          have e6 : World.cell? wr ⟨lb, lo + k * 8 + 6, none⟩ = some (.int .i64 xta) := (q _).trans (ec 6 (by omega))
          have e7 : World.cell? wr ⟨lb, lo + k * 8 + 7, none⟩ = some (.int .i64 xtb) := (q _).trans (ec 7 (by omega))
          clear ec q
          have BX := Blk.new wr 59 #[.int .i64 xa, .int .i64 xb, .int .i64 xt, .int .i64 xm, .int .i64 xga, .int .i64 xgb, .int .i64 xta, .int .i64 xtb]
          have hbx : Below wr.heap.size wr (wr.alloc (.cells #[.int .i64 xa, .int .i64 xb, .int .i64 xt, .int .i64 xm, .int .i64 xga, .int .i64 xgb, .int .i64 xta, .int .i64 xtb] 59)) := by repeat (first | (with_reducible exact Below.refl _ _) | (with_reducible assumption) | (with_reducible refine Below.drew ?_) | ((with_reducible refine Below.alloc ?_ ?_ _); rotate_left; (first | (with_reducible exact Nat.zero_le _) | (with_reducible exact Nat.le_refl _) | omega | (dsimp only; omega) | (simp only [World.size_alloc, World.size_setCell, World.size_drew]; omega))) | ((with_reducible refine Below.setCell ?_ ?_ _); rotate_left; (first | (with_reducible exact Nat.zero_le _) | (with_reducible exact Nat.le_refl _) | omega | (dsimp only; omega) | (simp only [World.size_alloc, World.size_setCell, World.size_drew]; omega))))
          have hbz := hb.trans (hbx.mono hwz)
          by_cases c0 : xa < 0
          · skip
            go_wp2_with fail
            refine (awakeM_any _).mono ?_
            rintro e wa ⟨rfl, hba⟩
            go_wp2_with fail
            go_ret
            exact ⟨rfl, hbz.trans (hba.mono hbz.size)⟩
          by_cases c1 : xa ≥ S.length
          · skip
            go_wp2_with fail
            refine (awakeM_any _).mono ?_
            rintro e wa ⟨rfl, hba⟩
            go_wp2_with fail
            go_ret
            exact ⟨rfl, hbz.trans (hba.mono hbz.size)⟩
          by_cases c2 : xb < 0
          · skip
            go_wp2_with fail
            refine (awakeM_any _).mono ?_
            rintro e wa ⟨rfl, hba⟩
            go_wp2_with fail
            go_ret
            exact ⟨rfl, hbz.trans (hba.mono hbz.size)⟩
          by_cases c3 : xb ≥ S.length
          · skip
            go_wp2_with fail
            refine (awakeM_any _).mono ?_
            rintro e wa ⟨rfl, hba⟩
            go_wp2_with fail
            go_ret
            exact ⟨rfl, hbz.trans (hba.mono hbz.size)⟩
          by_cases c4 : xa = xb
          · subst c4
            skip
            go_wp2_with fail
            refine (awakeM_any _).mono ?_
            rintro e wa ⟨rfl, hba⟩
            go_wp2_with fail
            go_ret
            exact ⟨rfl, hbz.trans (hba.mono hbz.size)⟩
          by_cases c5 : xt < 0
          · skip
            go_wp2_with fail
            refine (awakeM_any _).mono ?_
            rintro e wa ⟨rfl, hba⟩
            go_wp2_with fail
            go_ret
            exact ⟨rfl, hbz.trans (hba.mono hbz.size)⟩
          by_cases c6 : xt > 536870912
          · skip
            go_wp2_with fail
            refine (awakeM_any _).mono ?_
            rintro e wa ⟨rfl, hba⟩
            go_wp2_with fail
            go_ret
            exact ⟨rfl, hbz.trans (hba.mono hbz.size)⟩
          by_cases c7 : xm < 0
          · skip
            go_wp2_with fail
            refine (awakeM_any _).mono ?_
            rintro e wa ⟨rfl, hba⟩
            go_wp2_with fail
            go_ret
            exact ⟨rfl, hbz.trans (hba.mono hbz.size)⟩
          by_cases c8 : xm > 536870912
          · skip
            go_wp2_with fail
            refine (awakeM_any _).mono ?_
            rintro e wa ⟨rfl, hba⟩
            go_wp2_with fail
            go_ret
            exact ⟨rfl, hbz.trans (hba.mono hbz.size)⟩
          obtain ⟨A, rfl⟩ : ∃ A : Nat, xa = A := ⟨xa.toNat, by omega⟩
          obtain ⟨B, rfl⟩ : ∃ B : Nat, xb = B := ⟨xb.toNat, by omega⟩
          have hAl : A < S.length := by omega
          have hBl : B < S.length := by omega
          have hxA := getD_of (d := sc0) hAl
          have hxB := getD_of (d := sc0) hBl
          obtain ⟨sb, so, rfl, hsz, hsc⟩ := HS.out (by rintro rfl; simp at hAl)
          have xA := hsc A _ hxA
          have xB := hsc B _ hxB
          have hc1 := fun w => rcould_any (S.getD A sc0).a (S.getD A sc0).b (S.getD A sc0).c (S.getD A sc0).d (S.getD A sc0).e (S.getD A sc0).f (xt + xm) xga t w
          have hc2 := fun w => rcould_any (S.getD B sc0).a (S.getD B sc0).b (S.getD B sc0).c (S.getD B sc0).d (S.getD B sc0).e (S.getD B sc0).f (xt + xm) xgb t w
          have hc3 := fun w => rcould_any (S.getD A sc0).a (S.getD A sc0).b (S.getD A sc0).c (S.getD A sc0).d (S.getD A sc0).e (S.getD A sc0).f xt xta t w
          rw [show cld (S.getD A sc0).a (S.getD A sc0).b (S.getD A sc0).c (S.getD A sc0).d (S.getD A sc0).e (S.getD A sc0).f (xt + xm) xga t = cldS (S.getD A sc0) (xt + xm) xga t from rfl] at hc1
          rw [show cld (S.getD B sc0).a (S.getD B sc0).b (S.getD B sc0).c (S.getD B sc0).d (S.getD B sc0).e (S.getD B sc0).f (xt + xm) xgb t = cldS (S.getD B sc0) (xt + xm) xgb t from rfl] at hc2
          rw [show cld (S.getD A sc0).a (S.getD A sc0).b (S.getD A sc0).c (S.getD A sc0).d (S.getD A sc0).e (S.getD A sc0).f xt xta t = cldS (S.getD A sc0) xt xta t from rfl] at hc3
          have hld : (cldS (S.getD A sc0) (xt + xm) xga t = true → cldS (S.getD B sc0) (xt + xm) xgb t = true → cldS (S.getD A sc0) xt xta t = true → xta ≤ xga → LdOk S t ⟨A, B, xt, xm, xga, xgb, xta, xtb⟩) := fun h1 h2 h3 h4 => ⟨by show (0 : Int) ≤ A; omega, by show (A : Int) < S.length; omega, by show (0 : Int) ≤ B; omega, by show (B : Int) < S.length; omega, c4, by show 0 ≤ xt; omega, by show xt ≤ 536870912; omega, by show 0 ≤ xm; omega, by show xm ≤ 536870912; omega, h1, h2, h3, h4⟩
          have HLD := Lib.hid hld
          have htk : (cldS (S.getD A sc0) (xt + xm) xga t = true → cldS (S.getD A sc0) xt xta t = true → TkOk S (tkOf t k ⟨A, B, xt, xm, xga, xgb, xta, xtb⟩)) := fun h1 h2 => tk_okM (by show (0 : Int) ≤ A; omega) (by show (A : Int) < S.length; omega) h1 h2 (by omega)
          have HTK0 := Lib.hid htk
          clear htk
          clear hld hxA hxB hsc
          have M1 : IntKind.i64.wrap (xt + xm) = xt + xm := IntWalk.i64_in _ (by omega)
          have M2 : wrap64 (xt + xm) = xt + xm := by unfold wrap64; omega
          have HC1 := Lib.hid hc1
          have HC2 := Lib.hid hc2
          have HC3 := Lib.hid hc3
          have XA := Lib.hid xA
          have XB := Lib.hid xB
          clear hc1 hc2 hc3 xA xB
          generalize S.getD A sc0 = y at *
          generalize S.getD B sc0 = z at *
          go_wp2_with fail
          generalize wr.alloc (.cells #[.int .i64 (A : Int), .int .i64 (B : Int), .int .i64 xt, .int .i64 xm, .int .i64 xga, .int .i64 xgb, .int .i64 xta, .int .i64 xtb] 59) = W at *
          obtain ⟨bx, hbe⟩ : ∃ b, wr.heap.size = b := ⟨_, rfl⟩
          rw [hbe] at BX ⊢
          have HBE := Lib.hid hbe
          clear hbe
          have c2 : ∀ Y : BW W, ∀ j, Y.w.cell? ⟨bx, j, none⟩ = #[.int .i64 (A : Int), .int .i64 (B : Int), .int .i64 xt, .int .i64 xm, .int .i64 xga, .int .i64 xgb, .int .i64 xta, .int .i64 xtb][j]? := fun Y => (BX.bw Y).cell
          have q : ∀ Y : BW W, ∀ j, Y.w.cell? ⟨sb, j, none⟩ = w.cell? ⟨sb, j, none⟩ := fun Y j => (hbz.trans (Y.h.mono hbz.size)).cell (p := ⟨sb, j, none⟩) hsz
          have xA := XA.out
          have xB := XB.out
          have d0 : ∀ Y : BW W, Y.w.cell? ⟨sb, so + A * 6, none⟩ = some (.int .i64 y.a) := fun Y => (q Y _).trans (xA 0 (by omega))
          have d1 : ∀ Y : BW W, Y.w.cell? ⟨sb, so + A * 6 + 1, none⟩ = some (.int .i64 y.b) := fun Y => (q Y _).trans (xA 1 (by omega))
          have d2 : ∀ Y : BW W, Y.w.cell? ⟨sb, so + A * 6 + 2, none⟩ = some (.int .i64 y.c) := fun Y => (q Y _).trans (xA 2 (by omega))
          have d3 : ∀ Y : BW W, Y.w.cell? ⟨sb, so + A * 6 + 3, none⟩ = some (.int .i64 y.d) := fun Y => (q Y _).trans (xA 3 (by omega))
          have d4 : ∀ Y : BW W, Y.w.cell? ⟨sb, so + A * 6 + 4, none⟩ = some (.int .i64 y.e) := fun Y => (q Y _).trans (xA 4 (by omega))
          have d5 : ∀ Y : BW W, Y.w.cell? ⟨sb, so + A * 6 + 5, none⟩ = some (.int .i64 y.f) := fun Y => (q Y _).trans (xA 5 (by omega))
          have f0 : ∀ Y : BW W, Y.w.cell? ⟨sb, so + B * 6, none⟩ = some (.int .i64 z.a) := fun Y => (q Y _).trans (xB 0 (by omega))
          have f1 : ∀ Y : BW W, Y.w.cell? ⟨sb, so + B * 6 + 1, none⟩ = some (.int .i64 z.b) := fun Y => (q Y _).trans (xB 1 (by omega))
          have f2 : ∀ Y : BW W, Y.w.cell? ⟨sb, so + B * 6 + 2, none⟩ = some (.int .i64 z.c) := fun Y => (q Y _).trans (xB 2 (by omega))
          have f3 : ∀ Y : BW W, Y.w.cell? ⟨sb, so + B * 6 + 3, none⟩ = some (.int .i64 z.d) := fun Y => (q Y _).trans (xB 3 (by omega))
          have f4 : ∀ Y : BW W, Y.w.cell? ⟨sb, so + B * 6 + 4, none⟩ = some (.int .i64 z.e) := fun Y => (q Y _).trans (xB 4 (by omega))
          have f5 : ∀ Y : BW W, Y.w.cell? ⟨sb, so + B * 6 + 5, none⟩ = some (.int .i64 z.f) := fun Y => (q Y _).trans (xB 5 (by omega))
          clear q xA xB e0 e1 e2 e3 e4 e5 e6 e7
          have kA := HC1.out
          have kB := HC2.out
          have kC := HC3.out
          have a1 : (A : Int) < S.length := by omega
          have a2 : (B : Int) < S.length := by omega
          have a3 : (0 : Int) ≤ A := by omega
          have a4 : (0 : Int) ≤ B := by omega
          cases hb1c : cldS y (xt + xm) xga t with
          | false =>
            rw [hb1c] at kA
            clear kB kC HC1 HC2 HC3 hb1c
            refine wp_region_calm (by kernel_rfl) (by kernel_rfl) ?_
            repeat (go_big_quiet_step (fail))
            go_big_quiet_want; go_big_quiet_op; go_big_quiet_call (exact calls_bw (fun w => kA w) _)
            repeat (go_big_quiet_step (fail))
            first | refine wpQuiet_nil ?_ | skip
            intro w5 hb5
            clear c2 d0 d1 d2 d3 d4 d5 f0 f1 f2 f3 f4 f5
            go_wp2_with fail
            refine (awakeM_any _).mono ?_
            rintro e wa ⟨rfl, hba⟩
            go_wp2_with fail
            go_ret
            exact ⟨rfl, hbz.trans ((hb5.trans (hba.mono hb5.size)).mono hbz.size)⟩
          | true =>
          rw [hb1c] at kA
          cases hb2c : cldS z (xt + xm) xgb t with
          | false =>
            rw [hb2c] at kB
            clear kC HC1 HC2 HC3 hb1c hb2c
            refine wp_region_calm (by kernel_rfl) (by kernel_rfl) ?_
            repeat (go_big_quiet_step (fail))
            go_big_quiet_want; go_big_quiet_op; go_big_quiet_call (exact calls_bw (fun w => kA w) _)
            repeat (go_big_quiet_step (fail))
            go_big_quiet_want; go_big_quiet_op; go_big_quiet_call (exact calls_bw (fun w => kB w) _)
            repeat (go_big_quiet_step (fail))
            first | refine wpQuiet_nil ?_ | skip
            intro w5 hb5
            clear c2 d0 d1 d2 d3 d4 d5 f0 f1 f2 f3 f4 f5
            go_wp2_with fail
            refine (awakeM_any _).mono ?_
            rintro e wa ⟨rfl, hba⟩
            go_wp2_with fail
            go_ret
            exact ⟨rfl, hbz.trans ((hb5.trans (hba.mono hb5.size)).mono hbz.size)⟩
          | true =>
          rw [hb2c] at kB
          cases hb3c : cldS y xt xta t with
          | false =>
            rw [hb3c] at kC
            clear HC1 HC2 HC3 hb1c hb2c hb3c
            refine wp_region_calm (by kernel_rfl) (by kernel_rfl) ?_
            repeat (go_big_quiet_step (fail))
            go_big_quiet_want; go_big_quiet_op; go_big_quiet_call (exact calls_bw (fun w => kA w) _)
            repeat (go_big_quiet_step (fail))
            go_big_quiet_want; go_big_quiet_op; go_big_quiet_call (exact calls_bw (fun w => kB w) _)
            repeat (go_big_quiet_step (fail))
            go_big_quiet_want; go_big_quiet_op; go_big_quiet_call (exact calls_bw (fun w => kC w) _)
            repeat (go_big_quiet_step (fail))
            first | refine wpQuiet_nil ?_ | skip
            intro w5 hb5
            clear c2 d0 d1 d2 d3 d4 d5 f0 f1 f2 f3 f4 f5
            go_wp2_with fail
            refine (awakeM_any _).mono ?_
            rintro e wa ⟨rfl, hba⟩
            go_wp2_with fail
            go_ret
            exact ⟨rfl, hbz.trans ((hb5.trans (hba.mono hb5.size)).mono hbz.size)⟩
          | true =>
          rw [hb3c] at kC
          have HLD2 := Lib.hid (HLD.out hb1c hb2c hb3c)
          have HTK1 := Lib.hid (HTK0.out hb1c hb3c)
          clear HTK0
          clear HC1 HC2 HC3 hb1c hb2c hb3c HLD
          refine wp_region_calm (by kernel_rfl) (by kernel_rfl) ?_
          repeat (go_big_quiet_step (fail))
          go_big_quiet_want; go_big_quiet_op; go_big_quiet_call (exact calls_bw (fun w => kA w) _)
          repeat (go_big_quiet_step (fail))
          go_big_quiet_want; go_big_quiet_op; go_big_quiet_call (exact calls_bw (fun w => kB w) _)
          repeat (go_big_quiet_step (fail))
          go_big_quiet_want; go_big_quiet_op; go_big_quiet_call (exact calls_bw (fun w => kC w) _)
          repeat (go_big_quiet_step (fail))
          first | refine wpQuiet_nil ?_ | skip
          intro w5 hb5
          clear c2 d0 d1 d2 d3 d4 d5 f0 f1 f2 f3 f4 f5 kA kB kC M1 M2
          replace BX := BX.step hb5
          have hbr := hbx.trans (hb5.mono hbx.size)
          replace hbz := hbz.trans (hb5.mono hbz.size)
          have hg8 : ∀ j, Value.ownBlock u8 = some j → j ≠ bx := fun j hj => by have := own_ltM O8.out j hj; have := HBE.out; omega
          have hg9 : ∀ j, Value.ownBlock u9 = some j → j ≠ bx := fun j hj => by have := own_ltM O9.out j hj; have := HBE.out; omega
          have BN := Blk.new w5 61 #[.int .i64 (A : Int), .int .i64 (B : Int), .int .i64 xga, .int .i64 xgb, .int .i64 t]
          have hbn : Below w5.heap.size w5 (w5.alloc (.cells #[.int .i64 (A : Int), .int .i64 (B : Int), .int .i64 xga, .int .i64 xgb, .int .i64 t] 61)) := by repeat (first | (with_reducible exact Below.refl _ _) | (with_reducible assumption) | (with_reducible refine Below.drew ?_) | ((with_reducible refine Below.alloc ?_ ?_ _); rotate_left; (first | (with_reducible exact Nat.zero_le _) | (with_reducible exact Nat.le_refl _) | omega | (dsimp only; omega) | (simp only [World.size_alloc, World.size_setCell, World.size_drew]; omega))) | ((with_reducible refine Below.setCell ?_ ?_ _); rotate_left; (first | (with_reducible exact Nat.zero_le _) | (with_reducible exact Nat.le_refl _) | omega | (dsimp only; omega) | (simp only [World.size_alloc, World.size_setCell, World.size_drew]; omega))))
          have own8 := ownsRow_step (ownsRow_step O8.out hbr) hbn
          have own9 := ownsRow_step (ownsRow_step O9.out hbr) hbn
          have BXn := BX.step hbn
          have hbzn := hbz.trans (hbn.mono hbz.size)
          clear O8 O9 hbx hb5 hbr hb hwz hbn
          have cx := BX.cell
          have lx := BX.lt
          go_wp2_with (first | (at_builtin; refine wpList_append_any _ rfl _ _ _ rfl w.heap.size 61 ti _ 5 40 Try.underlying56 hi hz hsi hby rfl (by omega) _ k _ rfl own8 _ 1 (encQ ⟨A, B, xga, xgb, t⟩) rfl (Src.of_blk BN 1) rfl (oneQM _) (by simp only [maxLen]; omega) (by omega) (by exact hbzn.size) ?_; intro v8 w6 own8' hgr hat; have hb6 : Below w.heap.size w w6 := Below.grown hbzn hgr hbzn.size (own_geT own8); have own9' := own_grown own9 hgr hap.symm; have hap6 : Apart u9 v8 := Apart.grow hap.symm own9 hat; have BX6 := Blk.grown BXn hgr (fun h => hg8 _ h.symm rfl); have hg9' : ∀ j, Value.ownBlock u9 = some j → j < w6.heap.size := own_ltM own9'; clear cx lx own8 own9 hgr hat hbzn BXn BN BX hbz hg8; have cx := BX6.cell; have lx := BX6.lt))
          have BT := (Blk.new w6 63 #[.int .i64 ((k : Int) + 1), .int .i64 (A : Int), .int .i64 t, .int .i64 xga, .int .i64 xta, .int .i64 0]).alloc (.cells #[.int .i64 ((k : Int) + 1), .int .i64 (A : Int), .int .i64 t, .int .i64 xga, .int .i64 xta, .int .i64 0] 63)
          have BU := Blk.new (w6.alloc (.cells #[.int .i64 ((k : Int) + 1), .int .i64 (A : Int), .int .i64 t, .int .i64 xga, .int .i64 xta, .int .i64 0] 63)) 63 #[.int .i64 ((k : Int) + 1), .int .i64 (A : Int), .int .i64 t, .int .i64 xga, .int .i64 xta, .int .i64 0]
          simp only [World.size_alloc] at BU
          have hbu : Below w6.heap.size w6 ((w6.alloc (.cells #[.int .i64 ((k : Int) + 1), .int .i64 (A : Int), .int .i64 t, .int .i64 xga, .int .i64 xta, .int .i64 0] 63)).alloc (.cells #[.int .i64 ((k : Int) + 1), .int .i64 (A : Int), .int .i64 t, .int .i64 xga, .int .i64 xta, .int .i64 0] 63)) := by repeat (first | (with_reducible exact Below.refl _ _) | (with_reducible assumption) | (with_reducible refine Below.drew ?_) | ((with_reducible refine Below.alloc ?_ ?_ _); rotate_left; (first | (with_reducible exact Nat.zero_le _) | (with_reducible exact Nat.le_refl _) | omega | (dsimp only; omega) | (simp only [World.size_alloc, World.size_setCell, World.size_drew]; omega))) | ((with_reducible refine Below.setCell ?_ ?_ _); rotate_left; (first | (with_reducible exact Nat.zero_le _) | (with_reducible exact Nat.le_refl _) | omega | (dsimp only; omega) | (simp only [World.size_alloc, World.size_setCell, World.size_drew]; omega))))
          have RU : RowIn _ (.slice (some ⟨w6.heap.size + 1, 0, none⟩) 1 1) 6 encT [tkOf t k ⟨A, B, xt, xm, xga, xgb, xta, xtb⟩] := RowIn.of_blkM (l := [tkOf t k ⟨A, B, xt, xm, xga, xgb, xta, xtb⟩]) encT_lenM BU rfl (by simp [maxLen])
          have hb7 := hb6.trans (hbu.mono hb6.size)
          have RS := HSR.out.step hb7
          have hrt := rtcheck_any RS (by omega) HCK.out RU HTK1.out
          have own8 := ownsRow_step own8' hbu
          have own9 := ownsRow_step own9' hbu
          have BX := BX6.step hbu
          clear own8' own9' BX6 cx lx BU RU hbu
          obtain ⟨bt, hbt⟩ : ∃ b, w6.heap.size = b := ⟨_, rfl⟩
          have HBT := Lib.hid hbt
          have hg9t : ∀ j, Value.ownBlock u9 = some j → j ≠ bt := fun j hj => by have := hg9' j hj; omega
          rw [hbt] at BT hrt ⊢
          clear hbt hb6
          generalize (w6.alloc (.cells #[.int .i64 ((k : Int) + 1), .int .i64 (A : Int), .int .i64 t, .int .i64 xga, .int .i64 xta, .int .i64 0] 63)).alloc (.cells #[.int .i64 ((k : Int) + 1), .int .i64 (A : Int), .int .i64 t, .int .i64 xga, .int .i64 xta, .int .i64 0] 63) = w7 at *
          by_cases gt : xta ≤ xga
          case neg =>
            rw [show (if (tkOf t k ⟨A, B, xt, xm, xga, xgb, xta, xtb⟩).gross < (tkOf t k ⟨A, B, xt, xm, xga, xgb, xta, xtb⟩).tare then (9 : Int) else 0) = 9 from if_pos (by show xga < xta; omega)] at hrt
            refine hrt.mono ?_
            rintro e w8 ⟨rfl, hb8⟩
            go_wp2_with fail
            refine (awakeM_any _).mono ?_
            rintro e wa ⟨rfl, hba⟩
            go_wp2_with fail
            go_ret
            exact ⟨rfl, hb7.trans ((hb8.trans (hba.mono hb8.size)).mono hb7.size)⟩
          rw [show (if (tkOf t k ⟨A, B, xt, xm, xga, xgb, xta, xtb⟩).gross < (tkOf t k ⟨A, B, xt, xm, xga, xgb, xta, xtb⟩).tare then (9 : Int) else 0) = 0 from if_neg (by show ¬ xga < xta; omega)] at hrt
          have hld := HLD2.out gt
          obtain ⟨n1, n2⟩ := tk_net (i := k) hld (by omega)
          have HLD3 := Lib.hid (HOK.out hld)
          clear hld HLD2
          refine hrt.mono ?_
          rintro e w8 ⟨rfl, hb8⟩
          clear hrt
          have hnet := tnet_any (RS.step hb8) (by omega) HCK.out HTK1.out (by show xta ≤ xga; exact gt)
          clear HTK1 HCK
          generalize netT S (tkOf t k ⟨A, B, xt, xm, xga, xgb, xta, xtb⟩) = g at *
          dsimp only [tkOf] at hnet n1 n2
          have hn1 : ¬ xm < g.lo := by omega
          have hn2 : ¬ xm > g.hi := by omega
          clear n1 n2
          replace BT := BT.step hb8
          replace BX := BX.step hb8
          replace own8 := ownsRow_step own8 hb8
          replace own9 := ownsRow_step own9 hb8
          replace hb7 := hb7.trans (hb8.mono hb7.size)
          clear hb8 RS
          have cx := BT.cell
          have lx := BT.lt
          go_wp2_with fail
          refine hnet.mono ?_
          rintro e w9 ⟨rfl, hb9⟩
          clear hnet cx lx
          replace BT := BT.step hb9
          replace BX := BX.step hb9
          replace own8 := ownsRow_step own8 hb9
          replace own9 := ownsRow_step own9 hb9
          replace hb7 := hb7.trans (hb9.mono hb7.size)
          clear hb9
          have hbs : Below w9.heap.size w9 (w9.alloc (.cells #[.int .i64 g.lo, .int .i64 g.hi] 32)) := by repeat (first | (with_reducible exact Below.refl _ _) | (with_reducible assumption) | (with_reducible refine Below.drew ?_) | ((with_reducible refine Below.alloc ?_ ?_ _); rotate_left; (first | (with_reducible exact Nat.zero_le _) | (with_reducible exact Nat.le_refl _) | omega | (dsimp only; omega) | (simp only [World.size_alloc, World.size_setCell, World.size_drew]; omega))) | ((with_reducible refine Below.setCell ?_ ?_ _); rotate_left; (first | (with_reducible exact Nat.zero_le _) | (with_reducible exact Nat.le_refl _) | omega | (dsimp only; omega) | (simp only [World.size_alloc, World.size_setCell, World.size_drew]; omega))))
          replace BT := BT.step hbs
          replace BX := BX.step hbs
          replace own8 := ownsRow_step own8 hbs
          replace own9 := ownsRow_step own9 hbs
          have hb10 := hb7.trans (hbs.mono hb7.size)
          have BN := Blk.new (w9.alloc (.cells #[.int .i64 g.lo, .int .i64 g.hi] 32)) 63 #[.int .i64 ((k : Int) + 1), .int .i64 (A : Int), .int .i64 t, .int .i64 xga, .int .i64 xta, .int .i64 0]
          have hbn : Below (w9.alloc (.cells #[.int .i64 g.lo, .int .i64 g.hi] 32)).heap.size (w9.alloc (.cells #[.int .i64 g.lo, .int .i64 g.hi] 32)) ((w9.alloc (.cells #[.int .i64 g.lo, .int .i64 g.hi] 32)).alloc (.cells #[.int .i64 ((k : Int) + 1), .int .i64 (A : Int), .int .i64 t, .int .i64 xga, .int .i64 xta, .int .i64 0] 63)) := by repeat (first | (with_reducible exact Below.refl _ _) | (with_reducible assumption) | (with_reducible refine Below.drew ?_) | ((with_reducible refine Below.alloc ?_ ?_ _); rotate_left; (first | (with_reducible exact Nat.zero_le _) | (with_reducible exact Nat.le_refl _) | omega | (dsimp only; omega) | (simp only [World.size_alloc, World.size_setCell, World.size_drew]; omega))) | ((with_reducible refine Below.setCell ?_ ?_ _); rotate_left; (first | (with_reducible exact Nat.zero_le _) | (with_reducible exact Nat.le_refl _) | omega | (dsimp only; omega) | (simp only [World.size_alloc, World.size_setCell, World.size_drew]; omega))))
          replace own8 := ownsRow_step own8 hbn
          replace own9 := ownsRow_step own9 hbn
          have BXn := BX.step hbn
          have hb11 := hb10.trans (hbn.mono hb10.size)
          simp only [World.size_alloc] at BN
          clear hbs hbn hb7 hb10
          have cx := BX.cell
          have lx := BX.lt
          have ct := BT.cell
          have lt := BT.lt
          go_wp2_with (first | (at_builtin; refine wpList_append_any _ rfl _ _ _ rfl w.heap.size 63 tj _ 6 48 Try.underlying57 ji jz jsi jby rfl (by omega) _ k _ rfl own9 _ 1 (encT ⟨(k : Int) + 1, A, t, xga, xta, 0⟩) rfl (Src.of_blk BN 1) rfl (oneTM _) (by simp only [maxLen]; omega) (by omega) (by exact hb11.size) ?_; intro v9 w11 own9' hgr hat; have hb12 : Below w.heap.size w w11 := Below.grown hb11 hgr hb11.size (own_geT own9); have own8' := own_grown own8 hgr hap6.symm; have hap7 : Apart v8 v9 := Apart.grow hap6.symm own8 hat; have BX11 := Blk.grown BXn hgr (fun h => hg9 _ h.symm rfl); clear cx lx ct lt own8 own9 hgr hat hb11 BXn BX BN BT; have cx := BX11.cell; have lx := BX11.lt))
          have own8f : w11.ownsRow w.heap.size 61 5 v8 (k + 1) (rowOf encQ (prs t l (k + 1))) := by
            rw [HPR.out, rowOf_append, show rowOf encQ [prOf t ⟨A, B, xt, xm, xga, xgb, xta, xtb⟩] = encQ ⟨A, B, xga, xgb, t⟩ by simp [rowOf, prOf]]
            exact own8'
          have own9f : w11.ownsRow w.heap.size 63 6 v9 (k + 1) (rowOf encT (tks t l (k + 1))) := by
            rw [HTK.out, rowOf_append, show rowOf encT [tkOf t k ⟨A, B, xt, xm, xga, xgb, xta, xtb⟩] = encT ⟨(k : Int) + 1, A, t, xga, xta, 0⟩ by simp [rowOf, tkOf]]
            exact own9'
          clear own8' own9' cx lx BX11
          go_roundw
          case rel => exact ⟨k + 1, hlt, by simp, by rw [HSM.out], HLD3.out, hb12, own8f, own9f, hap7⟩
          case measure => simp [intOf]; omega
        · obtain rfl : k = l.length := by omega
          clear hlt hk hap
          obtain ⟨t1, t2, t3⟩ := tot_ok (by omega) hok
          obtain ⟨k1, k2, k3⟩ := con_ok (S := S) (by omega) HCK.out (by omega) hok
          have R8 : RowIn wr u8 5 encQ (prs t l l.length) := RowIn.of_own encQ_lenM (by rw [prs_len]; exact own8)
          have R9 : RowIn wr u9 6 encT (tks t l l.length) := RowIn.of_own encT_lenM (by rw [tks_len]; exact own9)
          have RS := HSR.out.step hb
          have hto := total_any RS (by omega) HCK.out R9 (by rw [tks_len]; omega) (tks_num _ _ _) (tks_ok (by omega) hok)
          rw [t1] at hto
          clear own8 own9 hok t1 HCK R9
          generalize sumS (netsT S (tks t l l.length)) = T at *
          generalize sumM l l.length = M at *
          generalize prs t l l.length = PR at *
          go_wp2_with fail
          refine hto.mono ?_
          rintro e w1 ⟨rfl, hb1⟩
          clear hto
          have BT := Blk.new w1 32 #[.int .i64 T.lo, .int .i64 T.hi]
          have hbs : Below w1.heap.size w1 (w1.alloc (.cells #[.int .i64 T.lo, .int .i64 T.hi] 32)) := by repeat (first | (with_reducible exact Below.refl _ _) | (with_reducible assumption) | (with_reducible refine Below.drew ?_) | ((with_reducible refine Below.alloc ?_ ?_ _); rotate_left; (first | (with_reducible exact Nat.zero_le _) | (with_reducible exact Nat.le_refl _) | omega | (dsimp only; omega) | (simp only [World.size_alloc, World.size_setCell, World.size_drew]; omega))) | ((with_reducible refine Below.setCell ?_ ?_ _); rotate_left; (first | (with_reducible exact Nat.zero_le _) | (with_reducible exact Nat.le_refl _) | omega | (dsimp only; omega) | (simp only [World.size_alloc, World.size_setCell, World.size_drew]; omega))))
          have hb2 := hb1.trans (hbs.mono hb1.size)
          replace hb := hb.trans (hb2.mono hb.size)
          have hco := conflicts_any (RS.step hb2) (R8.step hb2)
          rw [k1, k2] at hco
          clear hb1 hbs
          go_wp2_with fail
          refine hco.mono ?_
          rintro e w3 ⟨v3, rfl, R3, hb3⟩
          replace BT := BT.step hb3
          have hsu := suspects_any ((RS.step hb2).step hb3) ((R8.step hb2).step hb3)
          rw [k1, k3] at hsu
          replace hb := hb.trans (hb3.mono hb.size)
          clear hco hb2 hb3
          obtain ⟨oa, ca, rfl, _, _, _, _⟩ := R3.at_
          go_wp2_with fail
          refine hsu.mono ?_
          rintro e w4 ⟨v4, rfl, R4, hb4⟩
          replace BT := BT.step hb4
          replace hb := hb.trans (hb4.mono hb.size)
          clear hsu hb4
          obtain ⟨ob, cb, rfl, _, _, _, _⟩ := R4.at_
          clear RS R8 R3 R4
          have cx := BT.cell
          have lx := BT.lt
          go_wp2_with fail
          refine (awakeM_any _).mono ?_
          rintro e w5 ⟨rfl, hb5⟩
          clear cx lx
          go_wp2_with fail
          go_ret
          exact ⟨rfl, hb.trans (hb5.mono hb.size)⟩

end Go.Proofs.Ytapfihlfnaebhaa
