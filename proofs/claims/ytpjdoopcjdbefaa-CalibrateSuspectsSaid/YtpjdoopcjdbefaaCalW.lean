/- Contracts: the members of a set of bits, the order of lists. -/
import Derived.Test.YtpjdoopcjdbefaaCalH
import Derived.Test.YtpjdoopcjdbefaaCalJ
namespace Go.Proofs.Ytpjdoopcjdbefaa
set_option linter.unusedVariables false
set_option linter.unusedSimpArgs false
open Go.RowKit

theorem below_two {w : World} {m n : Nat} : Below w.heap.size w ((w.drewN m).drewN n) := (below_drewM m).trans ((below_drewM n).mono (below_drewM m).size)
def listOut (w : World) (l : List Nat) (e : Ending) (w' : World) : Prop := ∃ v, e = .returned v ∧ RowIn w' v 1 encN l ∧ Below w.heap.size w w'
def MbRel (w : World) (n v : Nat) (o i : Value) (wr : World) : Prop := ∃ k : Nat, k ≤ n ∧ i = .int .i64 k ∧ Below w.heap.size w wr ∧ ∃ L : List Nat, L.length ≤ k ∧ wr.ownsRow w.heap.size 3 1 o L.length (rowOf encN L) ∧ mems (setR v) 0 n = L ++ mems (setR v) k (n - k)
theorem bit_of {v k : Nat} (hv : v < 65536) : bits .and .i64 ((v : Int) / (2 : Int) ^ k) 1 = (if setR v k = true then 1 else 0) := by
  have e : ((v : Int) / (2 : Int) ^ k) = ((v / 2 ^ k : Nat) : Int) := by simp
  have hd : v / 2 ^ k ≤ v := Nat.div_le_self _ _
  rw [e]
  have := i64_and (a := v / 2 ^ k) (b := 1) (by omega) (by omega)
  rw [show ((1 : Nat) : Int) = 1 from rfl] at this
  rw [this, Nat.and_one_is_mod]
  unfold setR
  rw [Nat.testBit_eq_decide_div_mod_eq]
  rcases Nat.mod_two_eq_zero_or_one (v / 2 ^ k) with h | h <;> rw [h] <;> simp
set_option maxHeartbeats 4000000 in
theorem members_any (n v : Nat) (hn : n ≤ 16) (hv : v < 65536) (w : World) : Calls Try.prog 34 #[.int .i64 (v : Int), .int .i64 (n : Int)] w (listOut w (mems (setR v) 0 n)) := by
  obtain ⟨tj, ji, jz, jsi, jby⟩ := info_of (P := Try.prog) (t := 3) (z := .int .i64 0) (size := 1) (bytes := 8) (by kernel_rfl)
  go_enter Try.func34, Try.ntmps34
  go_wp2_with fail
  go_loopw [5, 6] (fun o i wr => MbRel w n v o i wr) (fun _ i _ => (n - intOf i).toNat)
  case atStart => exact ⟨0, Nat.zero_le _, rfl, Below.refl _ _, [], Nat.zero_le _, ⟨by simp [rowOf], .inl ⟨rfl, rfl⟩⟩, by simp⟩
  case round =>
    obtain ⟨k, hk, rfl, hbr, L, hLk, own, hL⟩ := hrel
    have hsz := hbr.size
    by_cases hkl : k < n
    · have hki : (k : Int) < n := by omega
      have hk0 : (0 : Int) ≤ k := by omega
      have hk16 : (k : Int) ≤ 16 := by omega
      have hmk : mems (setR v) k (n - k) = if setR v k = true then k :: mems (setR v) (k + 1) (n - (k + 1)) else mems (setR v) (k + 1) (n - (k + 1)) := by
        rw [show n - k = (n - (k + 1)) + 1 by omega, mems]
      rw [hmk] at hL
      have hbit := bit_of (k := k) hv
      clear hmk
      cases hs : setR v k with
      | false =>
        rw [hs, if_neg (by simp)] at hL hbit
        have HL := Lib.hid hL
        clear hs hL
        go_wp2_with fail
        go_roundw
        case rel => exact ⟨k + 1, hkl, by simp, hbr, L, by omega, own, HL.out⟩
        case measure => simp [intOf]; omega
      | true =>
        rw [hs, if_pos rfl] at hL hbit
        have HL := Lib.hid hL
        have BK := Blk.new wr 3 #[.int .i64 (k : Int)]
        have hb6 : Below wr.heap.size wr (wr.alloc (.cells #[.int .i64 (k : Int)] 3)) := by repeat (first | (with_reducible exact Below.refl _ _) | (with_reducible assumption) | (with_reducible refine Below.drew ?_) | ((with_reducible refine Below.alloc ?_ ?_ _); rotate_left; (first | (with_reducible exact Nat.zero_le _) | (with_reducible exact Nat.le_refl _) | omega | (dsimp only; omega) | (simp only [World.size_alloc, World.size_setCell, World.size_drew]; omega))) | ((with_reducible refine Below.setCell ?_ ?_ _); rotate_left; (first | (with_reducible exact Nat.zero_le _) | (with_reducible exact Nat.le_refl _) | omega | (dsimp only; omega) | (simp only [World.size_alloc, World.size_setCell, World.size_drew]; omega))))
        have own1 := ownsRow_step own hb6
        have hbx := hbr.trans (hb6.mono hsz)
        clear hs hL
        go_wp2_with (at_builtin; refine wpList_append_any _ rfl _ _ _ rfl w.heap.size 3 tj _ 1 8 Try.underlying26 ji jz jsi jby rfl (by omega) _ L.length _ rfl own1 _ 1 (encN k) rfl (Src.of_blk BK 1) rfl (fun u hu => oneN [k] u (by simpa [rowOf] using hu)) (by simp only [maxLen]; omega) (by omega) hbx.size ?_; intro v6 w6 own6 hg6 hat6)
        have hb7 := Below.grown hbx hg6 hbx.size (own_ge' own1)
        have own6' : w6.ownsRow w.heap.size 3 1 v6 (L ++ [k]).length (rowOf encN (L ++ [k])) := by
          rw [rowOf_append, List.length_append]
          simpa [rowOf] using own6
        clear own6 own1 own hg6 hat6
        go_roundw
        case rel => exact ⟨k + 1, hkl, by simp, hb7, L ++ [k], by simp; omega, own6', by rw [HL.out, List.append_assoc]; rfl⟩
        case measure => simp [intOf]; omega
    · obtain rfl : k = n := by omega
      go_wp2_with fail
      go_ret
      refine ⟨_, rfl, ?_, hbr⟩
      rw [hL, Nat.sub_self]
      simp only [mems, List.append_nil]
      exact RowIn.of_own encN_len own
def LsRel (w : World) (a b : List Nat) (i : Value) (wr : World) : Prop := ∃ k : Nat, k ≤ a.length ∧ i = .int .i64 k ∧ a.take k = b.take k ∧ Below w.heap.size w wr
theorem lexL_at : ∀ {a b : List Nat} {k x y : Nat}, a[k]? = some x → b[k]? = some y → a.take k = b.take k → x ≠ y → lexL a b = decide (x < y)
  | [], _, _, _, _, h, _, _, _ => by simp at h
  | _ :: _, [], _, _, _, _, h, _, _ => by simp at h
  | p :: a, q :: b, 0, x, y, h1, h2, _, hne => by
    obtain rfl : p = x := by simpa using h1
    obtain rfl : q = y := by simpa using h2
    unfold lexL; rw [if_pos hne]
  | p :: a, q :: b, k + 1, x, y, h1, h2, h3, hne => by
    simp only [List.take_succ_cons, List.cons.injEq] at h3
    obtain ⟨rfl, h3⟩ := h3
    unfold lexL; rw [if_neg (by simp)]
    exact lexL_at (by simpa using h1) (by simpa using h2) h3 hne
set_option maxHeartbeats 4000000 in
theorem less_any {w : World} {v v' : Value} {a b : List Nat} (ha : RowIn w v 1 encN a) (hb : RowIn w v' 1 encN b) : Calls Try.prog 21 #[v, v'] w fun e w' => e = .returned (.bool (lessL a b)) ∧ Below w.heap.size w w' := by
  obtain ⟨oa, ca, rfl, a1, a2, _, ha5⟩ := ha.at_
  obtain ⟨ob, cb, rfl, b1, b2, _, hb5⟩ := hb.at_
  unfold maxLen at a2 b2
  have HA := Lib.hid ha5
  have HB := Lib.hid hb5
  clear ha5 hb5 ha hb
  by_cases hl : a.length = b.length
  case neg =>
    have hl' : ((a.length : Int) != b.length) = true := by simp; omega
    have he : lessL a b = decide (a.length < b.length) := by unfold lessL; rw [if_pos hl]
    rw [he]
    clear hl he
    by_cases h2 : a.length < b.length
    · have h2' : (a.length : Int) < b.length := by omega
      rw [decide_eq_true h2]
      clear h2
      go_enter Try.func21, Try.ntmps21
      go_wp2_with fail
      go_ret
      exact ⟨rfl, Below.refl _ _⟩
    · have h2' : ¬ (a.length : Int) < b.length := by omega
      rw [decide_eq_false h2]
      clear h2
      go_enter Try.func21, Try.ntmps21
      go_wp2_with fail
      go_ret
      exact ⟨rfl, Below.refl _ _⟩
  have hL : lessL a b = lexL a b := by unfold lessL; rw [if_neg (by simpa using hl)]
  rw [hL]
  have HL := Lib.hid hl
  rw [← hl]
  rw [← hl] at b1
  clear hl hL
  go_enter Try.func21, Try.ntmps21
  go_wp2_with fail
  go_loopw [18] (fun i wr => LsRel w a b i wr) (fun i _ => (a.length - intOf i).toNat)
  case atStart => exact ⟨0, Nat.zero_le _, rfl, rfl, Below.refl _ _⟩
  case round =>
    obtain ⟨k, hk, rfl, hok, hbr⟩ := hrel
    by_cases hlt : k < a.length
    · have hx := getD_of (d := 0) hlt
      have hy := getD_of (l := b) (d := 0) (show k < b.length by have := HL.out; omega)
      obtain ⟨p, o, rfl, hp, hc⟩ := HA.out (by rintro rfl; simp at hlt)
      obtain ⟨p', o', rfl, hp', hc'⟩ := HB.out (by rintro rfl; simp at hy)
      have e0 : World.cell? wr ⟨p, o + k, none⟩ = some (.int .i64 ((a.getD k 0 : Nat) : Int)) := by
        have := hc k _ hx 0 (by omega)
        rw [Nat.mul_one, Nat.add_zero] at this
        exact (hbr.cell (p := ⟨p, o + k, none⟩) hp).trans this
      have e1 : World.cell? wr ⟨p', o' + k, none⟩ = some (.int .i64 ((b.getD k 0 : Nat) : Int)) := by
        have := hc' k _ hy 0 (by omega)
        rw [Nat.mul_one, Nat.add_zero] at this
        exact (hbr.cell (p := ⟨p', o' + k, none⟩) hp').trans this
      have hts := take_step hx hy hok
      have hla := fun hne => lexL_at hx hy hok hne
      clear hx hy hc hc' hok
      generalize a.getD k 0 = x at *
      generalize b.getD k 0 = y at *
      have i0 : (0 : Int) ≤ k := by omega
      have i1 : (k : Int) < a.length := by omega
      by_cases hxy : x = y
      · subst hxy
        have HT := Lib.hid (hts.2 rfl)
        clear hts hla
        go_wp2_with fail
        go_quiet (fail)
        go_wp2_with fail
        go_roundw
        case rel => exact ⟨k + 1, hlt, by simp, HT.out, hbr.trans ((below_drewM nq).mono hbr.size)⟩
        case measure => simp [intOf]; omega
      · have hne : ((x : Int) != (y : Int)) = true := by simp; omega
        have HF := Lib.hid (hla hxy)
        clear hts hla
        go_wp2_with fail
        go_quiet (fail)
        go_wp2_with fail
        go_quiet (fail)
        go_wp2_with fail
        go_ret
        exact ⟨by rw [HF.out]; first | rfl | simp, by exact hbr.trans (below_two.mono hbr.size)⟩
    · obtain rfl : k = a.length := by omega
      have : a = b := by rw [List.take_length, HL.out, List.take_length] at hok; exact hok
      have HF := Lib.hid (show lexL a b = false by rw [this]; exact lexL_irrefl b)
      clear this hok
      go_wp2_with fail
      go_ret
      exact ⟨by rw [HF.out]; rfl, hbr⟩

end Go.Proofs.Ytpjdoopcjdbefaa
