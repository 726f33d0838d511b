/- The plain law of TopMeasured: tickets and loads. No program in sight. -/
import Derived.Test.YtapfihlfnaebhaaCalC
namespace Go.Proofs.Ytapfihlfnaebhaa
set_option linter.unusedVariables false
set_option linter.unusedSimpArgs false

structure Tk where
  id : Int
  sc : Int
  tm : Int
  gross : Int
  tare : Int
  rep : Int
def tk0 : Tk := ⟨0, 0, 0, 0, 0, 0⟩
def scT (S : List Sc) (x : Tk) : Sc := S.getD x.sc.toNat sc0
/-- A ticket whose readings can be shown. -/
structure TkOk (S : List Sc) (x : Tk) : Prop where
  id1 : 1 ≤ x.id
  id2 : x.id ≤ 1000000
  s0 : 0 ≤ x.sc
  s1 : x.sc < S.length
  tg : trnS (scT S x) x.gross x.tm = 0
  tt : trnS (scT S x) x.tare x.tm = 0
  rp : x.rep = 0
noncomputable def gT (S : List Sc) (x : Tk) : Sp := ⟨loS (scT S x) x.gross x.tm, hiS (scT S x) x.gross x.tm⟩
noncomputable def tT (S : List Sc) (x : Tk) : Sp := ⟨loS (scT S x) x.tare x.tm, hiS (scT S x) x.tare x.tm⟩
def mx0 (x : Int) : Int := if 0 < x then x else 0
noncomputable def netT (S : List Sc) (x : Tk) : Sp := ⟨mx0 ((gT S x).lo - (tT S x).hi), mx0 ((gT S x).hi - (tT S x).lo)⟩
theorem TkOk.time {S : List Sc} {x : Tk} (h : TkOk S x) : 0 ≤ x.tm ∧ x.tm ≤ 3155759999 := by
  obtain ⟨_, _, h1, h2, _⟩ := trn_ok.1 h.tg
  exact ⟨h1, h2⟩
theorem TkOk.bd {S : List Sc} {x : Tk} (h : TkOk S x) : 0 ≤ (gT S x).lo ∧ (gT S x).lo ≤ 1073741824 ∧ 0 ≤ (gT S x).hi ∧ (gT S x).hi ≤ 1073741824 ∧ 0 ≤ (tT S x).lo ∧ (tT S x).lo ≤ 1073741824 ∧ 0 ≤ (tT S x).hi ∧ (tT S x).hi ≤ 1073741824 ∧ (gT S x).lo ≤ (gT S x).hi ∧ (tT S x).lo ≤ (tT S x).hi := by
  obtain ⟨a1, a2, a3, a4, _⟩ := sound_ok (m := 0) h.tg
  obtain ⟨b1, b2, b3, b4, _⟩ := sound_ok (m := 0) h.tt
  unfold gT tT loS hiS
  dsimp only
  omega
/-- The net interval holds the true net mass. -/
theorem net_in {S : List Sc} {x : Tk} (h : TkOk S x) {m t : Int} (h0 : 0 ≤ m) (hg : cldS (scT S x) (t + m) x.gross x.tm = true) (ht : cldS (scT S x) t x.tare x.tm = true) : (netT S x).lo ≤ m ∧ m ≤ (netT S x).hi := by
  obtain ⟨_, _, _, _, _, s1, _⟩ := sound_ok (m := t + m) h.tg
  obtain ⟨_, _, _, _, _, s2, _⟩ := sound_ok (m := t) h.tt
  unfold cldS at hg ht
  rw [hg] at s1
  rw [ht] at s2
  have s1 := s1.symm
  have s2 := s2.symm
  simp only [Bool.and_eq_true, decide_eq_true_eq] at s1 s2
  unfold netT gT tT loS hiS mx0
  dsimp only
  constructor <;> split <;> omega
theorem net_bd {S : List Sc} {x : Tk} (h : TkOk S x) : 0 ≤ (netT S x).lo ∧ (netT S x).lo ≤ (netT S x).hi ∧ (netT S x).hi ≤ 1073741824 := by
  have := h.bd
  unfold netT mx0
  dsimp only
  generalize gT S x = g at *
  generalize tT S x = t at *
  split <;> split <;> omega
/-- The net intervals of tickets. -/
noncomputable def netsT (S : List Sc) (l : List Tk) : List Sp := l.map (netT S)
theorem nets_val {S : List Sc} {l : List Tk} (h : ∀ x ∈ l, TkOk S x) : allV (netsT S l) = true := by
  unfold allV netsT
  rw [List.all_eq_true]
  intro s hs
  obtain ⟨x, hx, rfl⟩ := List.mem_map.1 hs
  have := net_bd (h x hx)
  unfold sval
  exact decide_eq_true (by omega)

end Go.Proofs.Ytapfihlfnaebhaa
