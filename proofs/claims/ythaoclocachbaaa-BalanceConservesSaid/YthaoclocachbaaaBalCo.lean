/- The plain law and the openings of BalanceConserves. -/
import Derived.Test.YthaoclocachbaaaBalN
import Derived.Test.YthaoclocachbaaaFlowP
import Derived.SizedLaws
namespace Go.Proofs.Ythaoclocachbaaa
set_option linter.unusedVariables false
set_option linter.unusedSimpArgs false
open Go.RowKit Go.ChangeShapes Go.WideShapes Go.ChangeAt Go.Deep

/-! ### The plain law -/
def exS (s : Sp) : Sp := ⟨s.lo, s.lo⟩
def exT (t : Tr) : Tr := ⟨t.frm, t.to, exS t.mass⟩
def exOl (o : List Sp) : List Sp := o.map exS
def exLl (l : List Tr) : List Tr := l.map exT
theorem step_exact {t : Tr} {S : Sp} {i : Nat} (hm : t.mass.lo = t.mass.hi) (h : S.lo = S.hi) : (stepS t i S).lo = (stepS t i S).hi := by
  unfold stepS
  by_cases c1 : t.to = (i : Int) <;> by_cases c2 : t.frm = (i : Int)
  · rw [if_pos c1, if_pos c2]; dsimp only; omega
  · rw [if_pos c1, if_neg c2]; dsimp only; omega
  · rw [if_neg c1, if_pos c2]; dsimp only; omega
  · rw [if_neg c1, if_neg c2]; exact h
theorem exact_node {l : List Tr} (i : Nat) (s : Sp) : ∀ k, k ≤ l.length → (nodeS ((exLl l).take k) i (exS s)).lo = (nodeS ((exLl l).take k) i (exS s)).hi
  | 0, _ => rfl
  | k + 1, hk => by
    have ih := exact_node i s k (l := l) (by omega)
    have hg : (exLl l)[k]? = some (exT (l.getD k tr0)) := by rw [exLl, List.getElem?_map, getD_t (by omega)]; rfl
    rw [nodeS_take hg]
    exact step_exact (by simp [exT, exS]) ih
/-- One transfer moves mass from a node to another one. -/
theorem move_sum {N : Nat} {t : Tr} (h : trE N t = 0) (hm : t.mass.lo = t.mass.hi) (S : Nat → Sp) : sm N (fun i => (stepS t i (S i)).lo) = sm N fun i => (S i).lo := by
  obtain ⟨a1, a2, a3, a4, a5, _⟩ := trE_iff.1 h
  have e : ∀ i, i < N → (stepS t i (S i)).lo = ((S i).lo + (if i = t.to.toNat then t.mass.lo else 0)) - (if i = t.frm.toNat then t.mass.lo else 0) := fun i _ => by
    unfold stepS
    by_cases c1 : t.to = i
    · rw [if_pos c1, if_neg (by omega), if_pos (by omega), if_neg (by omega)]; dsimp only; omega
    · rw [if_neg c1, if_neg (by omega : ¬ i = t.to.toNat)]
      by_cases c2 : t.frm = i
      · rw [if_pos c2, if_pos (by omega)]; dsimp only; omega
      · rw [if_neg c2, if_neg (by omega)]; omega
  rw [sm_congr e, sm_sub, sm_add, sm_one (by omega), sm_one (by omega)]
  omega
theorem nodes_sum {N : Nat} {l : List Tr} (h : ∀ t ∈ l, trE N t = 0 ∧ t.mass.lo = t.mass.hi) (S : Nat → Sp) : ∀ k, k ≤ l.length → sm N (fun i => (nodeS (l.take k) i (S i)).lo) = sm N fun i => (S i).lo
  | 0, _ => rfl
  | k + 1, hk => by
    have ih := nodes_sum h S k (by omega)
    have hg : l[k]? = some (l.getD k tr0) := getD_t (by omega)
    have ht := h _ (List.mem_of_getElem? hg)
    have e : sm N (fun i => (nodeS (l.take (k + 1)) i (S i)).lo) = sm N fun i => (stepS (l.getD k tr0) i (nodeS (l.take k) i (S i))).lo := sm_congr fun i _ => by rw [nodeS_take hg]
    rw [e, move_sum ht.1 ht.2, ih]
/-- What the loop of the law sums up. -/
def dSum (o v : List Sp) (k : Nat) : Int := sm k fun i => (v.getD i sp0).lo - (o.getD i sp0).lo
theorem cons_law {N : Nat} {o : List Sp} {l : List Tr} (h : bchk N (exOl o) (exLl l) = 0) :
    (∀ i, i < N → ((stkL (exOl o) (exLl l)).getD i sp0).lo = ((stkL (exOl o) (exLl l)).getD i sp0).hi) ∧ dSum (exOl o) (stkL (exOl o) (exLl l)) N = 0 := by
  have hB := bchk_ok h
  have hol : (exOl o).length = N := by have := hB.len; omega
  have hg : ∀ i, i < N → (stkL (exOl o) (exLl l)).getD i sp0 = nodeS (exLl l) i ((exOl o).getD i sp0) := fun i hi => by
    rw [List.getD_eq_getElem?_getD, stkL_get _ _ (by omega)]; rfl
  have hex : ∀ i, i < N → (exOl o).getD i sp0 = exS (o.getD i sp0) := fun i hi => by
    have hi' : i < o.length := by
      have : (exOl o).length = o.length := by simp [exOl]
      omega
    rw [List.getD_eq_getElem?_getD, exOl, List.getElem?_map, getD_s hi']; rfl
  constructor
  · intro i hi
    rw [hg i hi, hex i hi]
    have := exact_node (l := l) i (o.getD i sp0) l.length (Nat.le_refl _)
    rwa [List.take_of_length_le (by simp [exLl])] at this
  · unfold dSum
    rw [sm_congr (g := fun i => (nodeS (exLl l) i ((exOl o).getD i sp0)).lo - ((exOl o).getD i sp0).lo) fun i hi => by rw [hg i hi], sm_sub]
    have := nodes_sum (N := N) (l := exLl l) (fun t ht => ⟨hB.tr t ht, by obtain ⟨u, _, rfl⟩ := List.mem_map.1 ht; rfl⟩) (fun i => (exOl o).getD i sp0) (exLl l).length (Nat.le_refl _)
    rw [List.take_length] at this
    rw [this]
    omega

/-! ### What came in is not larger than the reach -/
section
variable {H : Type} {enc : TypeId × Value → H} {P : Program} {w : World}
theorem sized_agg {ts : List TypeId} {ds : List (DataW H)} (h : (DataW.weightsEach P ts ds).all (· ≤ reachBytes) = true) {j : Nat} {t : TypeId} {fs : Array Field} {parts : List (DataW H)} (ht : ts[j]? = some t) (hd : ds[j]? = some (.agg parts)) (hu : P.underlying t = some (.struct fs)) :
    (DataW.weightsEach P (fs.toList.map (·.type)) parts).all (· ≤ reachBytes) = true :=
  List.all_eq_true.2 fun n hn => List.all_eq_true.1 h n (DataW.weights_mem_each ht hd n (by simp only [DataW.weights, hu]; exact hn))
theorem rowfield_len {t e : TypeId} {oa : Option Addr} {len cap fuel : Nat} {q : DataW H × List MemPlace} (ht : P.underlying t = some (.slice e)) (h : DataW.trod enc P w 0 (fun _ => true) true fuel t [.slice oa len cap] = some q) {B : Nat}
    (hq : ∀ elems spare, q.1 = .slice elems spare → (elems.length + spare.length) * B ≤ reachBytes) : len * B ≤ reachBytes := by
  rcases open_slice ht h with ⟨hcs, _⟩ | ⟨a, len', cap', m, n, D, Pl, hcs, _, _, _, _, hx, _⟩
  · simp at hcs
    rw [hcs.2.1]; omega
  · simp at hcs
    obtain ⟨_, rfl, _⟩ := hcs
    have := hq _ _ (by rw [hx])
    simp only [List.length_map, List.length_range] at this
    exact Nat.le_trans (Nat.mul_le_mul_right _ (Nat.le_add_right _ _)) this
end
theorem bal_sized {H : Type} {enc : TypeId × Value → H} {w : World} {d : DataW H} {p : List MemPlace} {ts : List TypeId} {ds : List (DataW H)} (ht0 : ts[0]? = some 25) (hd0 : ds[0]? = some d) {n : Int} {oa la : Option Addr} {lo ca ll cb : Nat} {vc : Value}
    (h : DataW.Trod enc Try.prog w 0 (fun _ => true) true 25 (.agg #[.int .i64 n, .slice oa lo ca, .slice la ll cb, vc]) d p) (hsz : (DataW.weightsEach Try.prog ts ds).all (· ≤ reachBytes) = true) : lo * 16 ≤ reachBytes ∧ ll * 32 ≤ reachBytes := by
  obtain ⟨fuel, hf⟩ := h
  obtain ⟨xs, m, _, hx, hl, hxl, hfield⟩ := DataW.trod_struct Try.underlying25 hf
  have hd : d = .agg (xs.map (·.1)) := congrArg Prod.fst hx
  have hs := sized_agg hsz (j := 0) ht0 (by rw [hd0, hd]) Try.underlying25
  have h1 := hfield 1 _ rfl
  have h2 := hfield 2 _ rfl
  have hx1 : ∃ y, xs[1]? = some y := ⟨_, List.getElem?_eq_getElem (by rw [hxl]; decide)⟩
  have hx2 : ∃ y, xs[2]? = some y := ⟨_, List.getElem?_eq_getElem (by rw [hxl]; decide)⟩
  obtain ⟨y1, hy1⟩ := hx1
  obtain ⟨y2, hy2⟩ := hx2
  rw [hy1] at h1
  rw [hy2] at h2
  refine ⟨rowfield_len (B := 16) Try.underlying22 h1 fun elems spare hq => ?_, rowfield_len (B := 32) Try.underlying23 h2 fun elems spare hq => ?_⟩
  · have := sized_slice hs (j := 1) (t := 22) (e := 41) (elems := elems) (spare := spare) rfl (by rw [List.getElem?_map, hy1]; simp [hq]) Try.underlying22
    rwa [show Try.prog.bytesOf 41 = 16 by kernel_rfl] at this
  · have := sized_slice hs (j := 2) (t := 23) (e := 43) (elems := elems) (spare := spare) rfl (by rw [List.getElem?_map, hy2]; simp [hq]) Try.underlying23
    rwa [show Try.prog.bytesOf 43 = 32 by kernel_rfl] at this

end Go.Proofs.Ythaoclocachbaaa
