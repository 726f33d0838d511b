/- The plain law of TopMeasured, the rest: loads that both scales could show give no conflict, and their total holds the truth. No program in sight. -/
import Derived.Test.YtapfihlfnaebhaaMeaE
import Derived.Test.YtapfihlfnaebhaaCalH
namespace Go.Proofs.Ytapfihlfnaebhaa
set_option linter.unusedVariables false
set_option linter.unusedSimpArgs false

structure Ld where
  a : Int
  b : Int
  tare : Int
  mass : Int
  ga : Int
  gb : Int
  ta : Int
  tb : Int
def ld0 : Ld := ⟨0, 0, 0, 0, 0, 0, 0, 0⟩
/-- A load that the law lets by. -/
structure LdOk (S : List Sc) (t : Int) (x : Ld) : Prop where
  a0 : 0 ≤ x.a
  a1 : x.a < S.length
  b0 : 0 ≤ x.b
  b1 : x.b < S.length
  ab : x.a ≠ x.b
  t0 : 0 ≤ x.tare
  t1 : x.tare ≤ 536870912
  m0 : 0 ≤ x.mass
  m1 : x.mass ≤ 536870912
  ca : cldS (S.getD x.a.toNat sc0) (x.tare + x.mass) x.ga t = true
  cb : cldS (S.getD x.b.toNat sc0) (x.tare + x.mass) x.gb t = true
  ct : cldS (S.getD x.a.toNat sc0) x.tare x.ta t = true
  gt : x.ta ≤ x.ga
def tkOf (t : Int) (i : Nat) (x : Ld) : Tk := ⟨i + 1, x.a, t, x.ga, x.ta, 0⟩
def prOf (t : Int) (x : Ld) : Pr := ⟨x.a, x.b, x.ga, x.gb, t⟩
def tks (t : Int) (l : List Ld) : Nat → List Tk
  | 0 => []
  | k + 1 => tks t l k ++ [tkOf t k (l.getD k ld0)]
def prs (t : Int) (l : List Ld) : Nat → List Pr
  | 0 => []
  | k + 1 => prs t l k ++ [prOf t (l.getD k ld0)]
def sumM (l : List Ld) : Nat → Int
  | 0 => 0
  | k + 1 => sumM l k + (l.getD k ld0).mass
theorem tks_len (t : Int) (l : List Ld) : ∀ k, (tks t l k).length = k
  | 0 => rfl
  | k + 1 => by rw [tks, List.length_append, tks_len t l k]; rfl
theorem prs_len (t : Int) (l : List Ld) : ∀ k, (prs t l k).length = k
  | 0 => rfl
  | k + 1 => by rw [prs, List.length_append, prs_len t l k]; rfl
theorem cld_trnS {s : Sc} {m n t : Int} (h : cldS s m n t = true) : trnS s n t = 0 := by
  by_cases hn : trnS s n t = 0
  · exact hn
  · have := cld_trn (m := m) hn
    rw [show cldS s m n t = false from this] at h
    cases h
theorem tk_ok {S : List Sc} {t : Int} {x : Ld} {i : Nat} (h : LdOk S t x) (hi : i < 1000000) : TkOk S (tkOf t i x) where
  id1 := by show (1 : Int) ≤ i + 1; omega
  id2 := by show (i : Int) + 1 ≤ 1000000; omega
  s0 := h.a0
  s1 := h.a1
  tg := cld_trnS h.ca
  tt := cld_trnS h.ct
  rp := rfl
theorem tk_net {S : List Sc} {t : Int} {x : Ld} {i : Nat} (h : LdOk S t x) (hi : i < 1000000) : (netT S (tkOf t i x)).lo ≤ x.mass ∧ x.mass ≤ (netT S (tkOf t i x)).hi :=
  net_in (t := x.tare) (tk_ok h hi) h.m0 h.ca h.ct
theorem tks_ok {S : List Sc} {t : Int} {l : List Ld} : ∀ {k : Nat}, k ≤ 20 → (∀ i, i < k → LdOk S t (l.getD i ld0)) → ∀ x ∈ tks t l k, TkOk S x ∧ x.tare ≤ x.gross
  | 0, _, _, x, hx => by simp [tks] at hx
  | k + 1, hk, h, x, hx => by
    rw [tks, List.mem_append, List.mem_singleton] at hx
    rcases hx with hx | rfl
    · exact tks_ok (by omega) (fun i hi => h i (by omega)) x hx
    · exact ⟨tk_ok (h k (by omega)) (by omega), (h k (by omega)).gt⟩
theorem tks_get (t : Int) (l : List Ld) : ∀ {k i : Nat}, i < k → (tks t l k).getD i tk0 = tkOf t i (l.getD i ld0)
  | 0, i, h => by omega
  | k + 1, i, h => by
    rw [tks]
    by_cases hi : i < k
    · rw [List.getD_eq_getElem?_getD, List.getElem?_append_left (by rw [tks_len]; exact hi), ← List.getD_eq_getElem?_getD]
      exact tks_get t l hi
    · have : i = k := by omega
      subst this
      rw [List.getD_eq_getElem?_getD, List.getElem?_append_right (by rw [tks_len]; omega), tks_len]
      simp
theorem tks_num (t : Int) (l : List Ld) (k : Nat) : Num (tks t l k) where
  id := fun i hi => by rw [tks_len] at hi; rw [tks_get t l hi]; rfl
  rp := fun i hi => by rw [tks_len] at hi; rw [tks_get t l hi]; rfl
theorem nets_tot {S : List Sc} {t : Int} {l : List Ld} : ∀ {k : Nat}, k ≤ 20 → (∀ i, i < k → LdOk S t (l.getD i ld0)) →
    ((netsT S (tks t l k)).map Sp.lo).sum ≤ sumM l k ∧ sumM l k ≤ ((netsT S (tks t l k)).map Sp.hi).sum ∧ 0 ≤ ((netsT S (tks t l k)).map Sp.lo).sum ∧ ((netsT S (tks t l k)).map Sp.hi).sum ≤ k * 1073741824 ∧ 0 ≤ sumM l k ∧ sumM l k ≤ k * 536870912
  | 0, _, _ => by simp [tks, netsT, sumM]
  | k + 1, hk, h => by
    obtain ⟨i1, i2, i3, i4, i5, i6⟩ := nets_tot (k := k) (by omega) (fun i hi => h i (by omega))
    have hh := h k (by omega)
    obtain ⟨n1, n2⟩ := tk_net (i := k) hh (by omega)
    obtain ⟨b1, b2, b3⟩ := net_bd (tk_ok (i := k) hh (by omega))
    have m0 := hh.m0
    have m1 := hh.m1
    have e : netsT S (tks t l (k + 1)) = netsT S (tks t l k) ++ [netT S (tkOf t k (l.getD k ld0))] := by rw [tks, netsT, List.map_append]; rfl
    rw [e, sumM]
    simp only [List.map_append, List.map_cons, List.map_nil, List.sum_append, List.sum_cons, List.sum_nil]
    generalize netT S (tkOf t k (l.getD k ld0)) = g at *
    generalize ((netsT S (tks t l k)).map Sp.lo).sum = A at *
    generalize ((netsT S (tks t l k)).map Sp.hi).sum = B at *
    omega
theorem tot_ok {S : List Sc} {t : Int} {l : List Ld} {k : Nat} (hk : k ≤ 20) (h : ∀ i, i < k → LdOk S t (l.getD i ld0)) :
    sumE (netsT S (tks t l k)) = 0 ∧ (sumS (netsT S (tks t l k))).lo ≤ sumM l k ∧ sumM l k ≤ (sumS (netsT S (tks t l k))).hi := by
  obtain ⟨i1, i2, i3, i4, i5, i6⟩ := nets_tot hk h
  have hE : sumE (netsT S (tks t l k)) = 0 := by
    rw [sumE_iff]
    refine ⟨by rw [netsT, List.length_map, tks_len]; omega, nets_val fun x hx => (tks_ok hk h x hx).1, ?_⟩
    rw [endsV_sum]
    unfold sval sp0
    refine decide_eq_true ?_
    dsimp only
    omega
  refine ⟨hE, ?_⟩
  rw [sumS_of hE, endsV_sum]
  unfold sp0
  dsimp only
  omega
theorem pr_ok {S : List Sc} {t : Int} {x : Ld} (h : LdOk S t x) : prE S (prOf t x) = 0 ∧ prC S (prOf t x) = false := by
  have h0 : prE S (prOf t x) = 0 := by
    have a0 := h.a0
    have a1 := h.a1
    have b0 := h.b0
    have b1 := h.b1
    have e1 := cld_trnS h.ca
    have e2 := cld_trnS h.cb
    unfold prE prOf
    dsimp only
    rw [if_neg (by omega), if_neg h.ab, if_neg (by simpa using e1)]
    exact e2
  exact ⟨h0, no_conflict h0 h.ca h.cb⟩
theorem prs_ok {S : List Sc} {t : Int} {l : List Ld} : ∀ {k : Nat}, (∀ i, i < k → LdOk S t (l.getD i ld0)) → ∀ p ∈ prs t l k, prE S p = 0 ∧ prC S p = false
  | 0, _, p, hp => by simp [prs] at hp
  | k + 1, h, p, hp => by
    rw [prs, List.mem_append, List.mem_singleton] at hp
    rcases hp with hp | rfl
    · exact prs_ok (fun i hi => h i (by omega)) p hp
    · exact pr_ok (h k (by omega))
theorem firstE_nil {α : Type} {f : α → Int} : ∀ {l : List α}, (∀ x ∈ l, f x = 0) → firstE f l = 0
  | [], _ => rfl
  | x :: l, h => by
    have h1 := h x (by simp)
    have h2 := firstE_nil (f := f) (l := l) (fun y hy => h y (by simp [hy]))
    unfold firstE
    simp [h1, h2]
theorem con_ok {S : List Sc} {t : Int} {l : List Ld} {k : Nat} (hS : S.length ≤ 16) (hok : ∀ s ∈ S, chkS s = 0) (hk : k ≤ 20) (h : ∀ i, i < k → LdOk S t (l.getD i ld0)) :
    conE S (prs t l k) = 0 ∧ conL S (prs t l k) = [] ∧ susL S (prs t l k) = [] := by
  have hp := prs_ok h
  have hE : conE S (prs t l k) = 0 := by
    unfold conE
    rw [if_neg (by omega), if_neg (by rw [firstE_nil hok]; simp), if_neg (by rw [prs_len]; omega)]
    exact firstE_nil fun p hpp => (hp p hpp).1
  have hL : conL S (prs t l k) = [] := by
    unfold conL
    rw [if_pos hE]
    refine List.eq_nil_iff_forall_not_mem.2 fun i hi => ?_
    obtain ⟨h1, h2⟩ := conTo_mem hi
    rw [(hp _ (List.mem_of_getElem? (getD_of h1))).2] at h2
    cases h2
  refine ⟨hE, hL, ?_⟩
  unfold susL
  rw [hL]
  simp

end Go.Proofs.Ytapfihlfnaebhaa
