/- Contract: Assign. -/
import Derived.Test.YthaoclocachbaaaBalH
import Derived.Test.YthaoclocachbaaaBalI
import Derived.Test.YthaoclocachbaaaBalR
namespace Go.Proofs.Ythaoclocachbaaa
set_option linter.unusedVariables false
set_option linter.unusedSimpArgs false
open Go.RowKit

theorem edges_bd {n : Nat} {o : List Sp} {l : List Tr} {c : List Sp} (hB : BOk n o l) (hc : c.length = n) (hv : allV c = true) : ∀ e ∈ edgesL n o l c, EdB n e := by
  have hok := edges_ok hB hc hv
  refine fun e he => ⟨hok e he, ?_⟩
  have hn := hB.len
  have h1 : ∀ k, k ≤ n → ∀ e ∈ openEds n o k, e.hi ≤ 562949953421312 := by
    intro k
    induction k with
    | zero => intro _ e he; simp [openEds] at he
    | succ k ih =>
      intro hk e he
      rcases List.mem_append.1 he with he | he
      · exact ih (by omega) e he
      · obtain rfl := List.mem_singleton.1 he
        have hk' : k < o.length := by omega
        have := opOk_iff.1 (hB.op (o.getD k sp0) (by rw [List.getD_eq_getElem?_getD, List.getElem?_eq_getElem hk']; exact List.getElem_mem hk'))
        dsimp only; omega
  have h2 : ∀ k, k ≤ n → ∀ e ∈ closeEds n c k, e.hi ≤ 562949953421312 := by
    intro k
    induction k with
    | zero => intro _ e he; simp [closeEds] at he
    | succ k ih =>
      intro hk e he
      rcases List.mem_append.1 he with he | he
      · exact ih (by omega) e he
      · have hk' : k < c.length := by omega
        have hs := sval_true (allV_mem hv (s := c.getD k sp0) (by rw [List.getD_eq_getElem?_getD, List.getElem?_eq_getElem hk']; exact List.getElem_mem hk'))
        unfold closeEd at he
        rcases List.mem_cons.1 he with rfl | he
        · dsimp only; unfold sh; split <;> omega
        · split at he
          · obtain rfl := List.mem_singleton.1 he
            dsimp only; unfold sh; split <;> omega
          · simp at he
  rcases List.mem_append.1 he with he | he
  · exact h1 n (Nat.le_refl _) e he
  rcases List.mem_append.1 he with he | he
  · obtain ⟨t, ht, rfl⟩ := List.mem_map.1 he
    obtain ⟨a1, a2, a3, a4, _, a5⟩ := trE_iff.1 (hB.tr t ht)
    have := opOk_iff.1 a5
    show t.mass.hi ≤ _
    omega
  · exact h2 n (Nat.le_refl _) e he
theorem edges_len {n : Nat} {o : List Sp} {l : List Tr} {c : List Sp} (hB : BOk n o l) : (edgesL n o l c).length ≤ 96 := by
  have h1 := openEds_len n o n
  have h2 := closeEds_len n c n
  have := hB.n8
  have := hB.few
  simp only [edgesL, List.length_append, List.length_map]
  omega

def AsgOut (w : World) (n : Int) (o : List Sp) (l : List Tr) (c : List Sp) (e : Ending) (w' : World) : Prop :=
  Below w.heap.size w w' ∧ ∃ v ms, e = .returned (.tuple #[v, .int .i64 (tightE n o l c)]) ∧ RowIn w' v 1 (fun x : Int => [.int .i64 x]) ms ∧ (tightE n o l c ≠ 0 → ms = []) ∧ (tightE n o l c = 0 → holdsB n o l c ms = true)
theorem tightE_chk {n : Int} {o : List Sp} {l : List Tr} {c : List Sp} (h : bchkA n o l c ≠ 0) : tightE n o l c = bchkA n o l c := by unfold tightE; rw [if_pos h]
theorem tightE_no {n : Int} {o : List Sp} {l : List Tr} {c : List Sp} (h : bchkA n o l c = 0) (hf : feasB n.toNat o l c = false) : tightE n o l c = 40 := by unfold tightE; rw [if_neg (by simp [h]), hf]; rfl
theorem tightE_ok {n : Int} {o : List Sp} {l : List Tr} {c : List Sp} (h : bchkA n o l c = 0) (hf : feasB n.toNat o l c = true) : tightE n o l c = 0 := by unfold tightE; rw [if_neg (by simp [h]), if_pos hf]
theorem RowIn.cut {w : World} {b o n cap : Nat} {xs : List Int} (h : RowIn w (.slice (some ⟨b, o, none⟩) n cap) 1 (fun x : Int => [.int .i64 x]) xs) {k : Nat} (hk : k ≤ xs.length) : RowIn w (.slice (some ⟨b, o, none⟩) k k) 1 (fun x : Int => [.int .i64 x]) (xs.take k) := by
  obtain ⟨oa, cap', e, h2, h3, _, h5⟩ := h.at_
  have hl : (xs.take k).length = k := by simp; omega
  refine ⟨some ⟨b, o, none⟩, k, by rw [hl], by omega, by omega, by simp, fun hne => ?_⟩
  have hne' : xs ≠ [] := by rintro rfl; simp at hne
  obtain ⟨b', o', e', hlt, hc⟩ := h5 hne'
  simp only [Value.slice.injEq] at e
  obtain ⟨rfl, _, _⟩ := e
  simp only [Option.some.injEq, Addr.mk.injEq, and_true] at e'
  obtain ⟨rfl, rfl⟩ := e'
  refine ⟨b, o, rfl, hlt, fun i x hx j hj => hc i x ?_ j hj⟩
  have hi : i < k := by
    have := (List.getElem?_eq_some_iff.1 hx).1
    omega
  rwa [List.getElem?_take_of_lt hi] at hx

set_option maxRecDepth 100000 in
set_option maxHeartbeats 8000000 in
theorem assign_any {w : World} {vo vl vc : Value} (n : Int) {o : List Sp} {l : List Tr} {c : List Sp} (ho : RowIn w vo 2 encP o) (hl : RowIn w vl 4 encR l) (hc : RowIn w vc 2 encP c) : Calls Try.prog 14 #[.int .i64 n, vo, vl, vc] w (AsgOut w n o l c) := by
  have hck := fun w ho hl hc => bcheckA_any (w := w) (vo := vo) (vl := vl) (vc := vc) n (o := o) (l := l) (c := c) ho hl hc
  by_cases h0 : bchkA n o l c = 0
  · obtain ⟨hA0, hcl, hcv⟩ := bchkA_ok h0
    have hB := bchk_ok hA0
    have hn1 := hB.n1
    have hn8 := hB.n8
    have hlen := hB.len
    have hfew := hB.few
    obtain ⟨N, rfl⟩ : ∃ N : Nat, n = N := ⟨n.toNat, by omega⟩
    have hcl' : c.length = N := by omega
    have hok := edges_ok hB hcl' hcv
    have hbd := edges_bd hB hcl' hcv
    have hle := edges_len (c := c) hB
    have hfe := feas_circ (c := c) hok
    have hfi := feas_iff (c := c) hok
    have hch := fun xs => circ_holds (xs := xs) h0
    have hT0 := fun h => tightE_ok (n := N) h0 (by rw [Int.toNat_natCast]; exact h)
    have hT4 := fun h => tightE_no (n := N) h0 (by rw [Int.toNat_natCast]; exact h)
    rw [h0] at hck
    have HED := Lib.hid fun w ho hl hc => edges_any (w := w) (vo := vo) (vl := vl) (vc := vc) (n := N) (o := o) (l := l) (c := c) ho hl hc hB hcl' hcv
    have HFE := Lib.hid hfe
    have HFI := Lib.hid hfi
    have HCH := Lib.hid hch
    have HT0 := Lib.hid hT0
    have HT4 := Lib.hid hT4
    have HBD := Lib.hid hbd
    clear hfe hfi hch hT0 hT4 hbd hok h0 hA0 hB hcv hcl
    obtain ⟨la, cb, rfl, l1, l2, _, _⟩ := id hl.at_
    unfold maxLen at l2
    go_enter Try.func14, Try.ntmps14
    go_wp2_with fail
    refine (hck _ ho hl hc).mono ?_
    rintro e w1 ⟨rfl, hb1⟩
    replace ho := ho.step hb1
    replace hl := hl.step hb1
    replace hc := hc.step hb1
    have hs1 := hb1.size
    go_wp2_with fail
    refine (HED.out _ ho hl hc).mono ?_
    rintro e w2 ⟨ve, rfl, own, hb2⟩
    have hrow : RowIn w2 ve 5 encE (edgesL N o l c) := RowIn.of_own encE_len own
    replace hb2 := hb1.trans (hb2.mono hs1)
    have hs2 := hb2.size
    clear own
    go_wp2_with fail
    refine (solve_any N (by omega) hrow HBD.out hle).mono ?_
    rintro e w3 ⟨hb3, ⟨rfl, T, hT⟩ | ⟨v, xs, rfl, hr, hcirc⟩⟩
    · have hno : feasB N o l c = false := by
        rw [Bool.eq_false_iff]
        intro h
        have := HFI.out.1 h T
        omega
      have H4 := Lib.hid (HT4.out hno)
      clear hno
      go_wp2_with fail
      go_ret2
      refine ⟨hb2.trans (hb3.mono hs2), .slice none 0 0, [], by rw [H4.out]; rfl, RowIn.nil _ _ _, fun _ => rfl, fun h => ?_⟩
      rw [H4.out] at h; cases h
    · have hyes : feasB N o l c = true := HFE.out.2 ⟨xs, hcirc⟩
      have H0 := Lib.hid (HT0.out hyes)
      obtain ⟨hh, hln⟩ := HCH.out xs hcirc
      have HH := Lib.hid hh
      clear hh hyes
      obtain ⟨xa, cx, rfl, x1, x2, _, x5⟩ := id hr.at_
      obtain ⟨xb, xo, rfl, _, _⟩ := x5 (by rintro rfl; simp at hln; omega)
      unfold maxLen at x2
      have hk1 : (N : Int) + l.length ≤ cx := by omega
      have hk2 : (0 : Int) ≤ (N : Int) + l.length := by omega
      go_wp2_with fail
      go_ret2
      refine ⟨hb2.trans (hb3.mono hs2), _, _, by rw [H0.out]; rfl, hr.cut hln, fun h => absurd H0.out h, fun _ => HH.out⟩
  · have hT := tightE_chk h0
    have h0' : (bchkA n o l c != 0) = true := by simpa using h0
    have HT := Lib.hid hT
    have HN := Lib.hid h0
    clear hT h0
    generalize bchkA n o l c = E at *
    go_enter Try.func14, Try.ntmps14
    go_wp2_with fail
    refine (hck _ ho hl hc).mono ?_
    rintro e w1 ⟨rfl, hb1⟩
    go_wp2_with fail
    go_ret2
    refine ⟨hb1, .slice none 0 0, [], by rw [HT.out]; rfl, RowIn.nil _ _ _, fun _ => rfl, fun h => ?_⟩
    rw [HT.out] at h; exact absurd h HN.out

end Go.Proofs.Ythaoclocachbaaa
