/- The plain law of vouchers: what a book of vouchers is, what each call makes of it, and what the statements say of it. No program in sight. -/
import Init
namespace Go.Proofs.Ytbpeiljpbcgjaaa
set_option linter.unusedVariables false
set_option linter.unusedSimpArgs false

/-- A voucher, and whether it is redeemed. -/
structure Ent where
  num : Int
  mach : Int
  amt : Int
  at_ : Int
  til : Int
  red : Bool
/-- A book: how long vouchers are valid, its time, its vouchers. -/
structure Bk where
  valid : Int
  now : Int
  es : List Ent

def momE (b : Bk) (t : Int) : Int := if t < 0 ∨ t > 3155759999 then 1 else if t < b.now then 9 else 0
def issE (b : Bk) (m a t : Int) : Int := if m < 0 ∨ m ≥ 8 then 7 else if a < 1 ∨ a > 1000000 then 1 else if momE b t ≠ 0 then momE b t else if b.es.length ≥ 512 then 8 else 0
def newE (b : Bk) (m a t : Int) : Ent := ⟨(b.es.length : Int) + 1, m, a, t, t + b.valid, false⟩
def issB (b : Bk) (m a t : Int) : Bk := if issE b m a t = 0 then { b with es := b.es ++ [newE b m a t], now := t } else b
def ent0 : Ent := ⟨0, 0, 0, 0, 0, false⟩
def issV (b : Bk) (m a t : Int) : Ent := if issE b m a t = 0 then newE b m a t else ent0
def entAt (b : Bk) (n : Int) : Ent := b.es.getD (n - 1).toNat ent0
def redE (b : Bk) (n t : Int) : Int := if momE b t ≠ 0 then momE b t else if n < 1 ∨ n > b.es.length then 7 else if (entAt b n).red then 28 else if t ≥ (entAt b n).til then 31 else 0
def redB (b : Bk) (n t : Int) : Bk := if redE b n t = 0 then { b with es := b.es.set (n - 1).toNat { entAt b n with red := true }, now := t } else b
def redV (b : Bk) (n t : Int) : Int := if redE b n t = 0 then (entAt b n).amt else 0

/-- The sum of the amounts that meet a condition. -/
def sumIf (p : Ent → Bool) : List Ent → Int
  | [] => 0
  | e :: l => (if p e then e.amt else 0) + sumIf p l
def isOpen (t : Int) (e : Ent) : Bool := !e.red && decide (t < e.til)
def isLapsed (t : Int) (e : Ent) : Bool := !e.red && decide (t ≥ e.til)
def openV (b : Bk) (t : Int) : Int := if momE b t = 0 then sumIf (isOpen t) b.es else 0
def lapV (b : Bk) (t : Int) : Int := if momE b t = 0 then sumIf (isLapsed t) b.es else 0
def totV (b : Bk) : Int := sumIf (fun _ => true) b.es
def paidV (b : Bk) : Int := sumIf (fun e => e.red) b.es

/-- What every book that was made by calls meets. -/
structure BkOk (b : Bk) : Prop where
  v1 : 1 ≤ b.valid
  v2 : b.valid ≤ 31622400
  n1 : 0 ≤ b.now
  n2 : b.now ≤ 3155759999
  len : b.es.length ≤ 512
  amt : ∀ e ∈ b.es, 1 ≤ e.amt ∧ e.amt ≤ 1000000

theorem sumIf_append (p : Ent → Bool) (l m : List Ent) : sumIf p (l ++ m) = sumIf p l + sumIf p m := by
  induction l with
  | nil => simp [sumIf]
  | cons e l ih => simp only [List.cons_append, sumIf, ih]; omega
theorem sumIf_bd (p : Ent → Bool) (l : List Ent) (h : ∀ e ∈ l, 1 ≤ e.amt ∧ e.amt ≤ 1000000) : 0 ≤ sumIf p l ∧ sumIf p l ≤ 1000000 * l.length := by
  induction l with
  | nil => simp [sumIf]
  | cons e l ih =>
    have h1 := h e (by simp)
    have h2 := ih fun x hx => h x (by simp [hx])
    simp only [sumIf, List.length_cons]
    split <;> omega
theorem sumIf_set (p : Ent → Bool) : ∀ (l : List Ent) (k : Nat) (x : Ent), k < l.length → sumIf p (l.set k x) = sumIf p l - (if p (l.getD k ent0) then (l.getD k ent0).amt else 0) + (if p x then x.amt else 0)
  | e :: l, 0, x, _ => by simp [sumIf]; omega
  | e :: l, k + 1, x, h => by
    have := sumIf_set p l k x (by simpa using h)
    simp only [List.set_cons_succ, sumIf, this, List.getD_cons_succ]
    omega
theorem sumIf_split (l : List Ent) (t : Int) : sumIf (fun _ => true) l = sumIf (fun e => e.red) l + sumIf (isOpen t) l + sumIf (isLapsed t) l := by
  induction l with
  | nil => simp [sumIf]
  | cons e l ih =>
    simp only [sumIf, ih, isOpen, isLapsed]
    by_cases hr : e.red = true
    · simp [hr]; omega
    · have hr := eq_false_of_ne_true hr
      by_cases h : t < e.til
      · have h' : ¬ e.til ≤ t := by omega
        simp [hr, h, h']; omega
      · have h' : e.til ≤ t := by omega
        simp [hr, h, h']; omega
theorem sumIf_mono (p q : Ent → Bool) (l : List Ent) (h : ∀ e ∈ l, 1 ≤ e.amt ∧ e.amt ≤ 1000000) (hpq : ∀ e, p e = true → q e = true) : sumIf p l ≤ sumIf q l := by
  induction l with
  | nil => simp [sumIf]
  | cons e l ih =>
    have h1 := h e (by simp)
    have h2 := ih fun x hx => h x (by simp [hx])
    simp only [sumIf]
    by_cases hp : p e = true
    · simp [hp, hpq e hp]; omega
    · simp only [hp, if_false, Bool.false_eq_true]
      split <;> omega

theorem issB_ok {b : Bk} (h : BkOk b) (m a t : Int) : BkOk (issB b m a t) := by
  unfold issB
  split
  · rename_i h0
    have h' := h0
    unfold issE at h'
    split at h'
    · omega
    split at h'
    · omega
    split at h'
    · rename_i hm; exact absurd h' hm
    split at h'
    · omega
    rename_i hm hl
    have hmo : momE b t = 0 := by simpa using hm
    unfold momE at hmo
    split at hmo
    · omega
    refine ⟨h.v1, h.v2, by simp only; omega, by simp only; omega, by simp; omega, ?_⟩
    intro e he
    rcases List.mem_append.1 he with he | he
    · exact h.amt e he
    · obtain rfl : e = newE b m a t := by simpa using he
      simp only [newE]; omega
  · exact h
theorem entAt_mem {b : Bk} {n : Int} (h1 : 1 ≤ n) (h2 : n ≤ b.es.length) : entAt b n ∈ b.es := by
  unfold entAt
  have : (n - 1).toNat < b.es.length := by omega
  rw [List.getD_eq_getElem?_getD, List.getElem?_eq_getElem this]
  exact List.getElem_mem this
theorem redE_ok {b : Bk} {n t : Int} (h : redE b n t = 0) : momE b t = 0 ∧ 1 ≤ n ∧ n ≤ b.es.length ∧ (entAt b n).red = false ∧ t < (entAt b n).til := by
  unfold redE at h
  split at h
  · rename_i h1; exact absurd h h1
  split at h
  · omega
  split at h
  · omega
  split at h
  · omega
  rename_i h1 h2 h3 h4
  exact ⟨by simpa using h1, by omega, by omega, by simpa using h3, by omega⟩
theorem momE_ok {b : Bk} {t : Int} (h : momE b t = 0) : 0 ≤ t ∧ t ≤ 3155759999 ∧ b.now ≤ t := by
  unfold momE at h
  split at h
  · omega
  split at h <;> omega
theorem redB_ok {b : Bk} (h : BkOk b) (n t : Int) : BkOk (redB b n t) := by
  unfold redB
  split
  · rename_i h0
    obtain ⟨hm, h1, h2, _, _⟩ := redE_ok h0
    obtain ⟨t1, t2, _⟩ := momE_ok hm
    refine ⟨h.v1, h.v2, t1, t2, by simpa using h.len, fun e he => ?_⟩
    rcases List.mem_or_eq_of_mem_set he with he | rfl
    · exact h.amt e he
    · exact h.amt (entAt b n) (entAt_mem h1 h2)
  · exact h

theorem tot_issue (b : Bk) (m a t : Int) : totV (issB b m a t) = totV b + (if issE b m a t = 0 then (issV b m a t).amt else 0) ∧ paidV (issB b m a t) = paidV b := by
  unfold totV paidV issB issV
  by_cases h : issE b m a t = 0
  · simp [h, sumIf_append, sumIf, newE]
  · simp [h]
theorem tot_redeem (b : Bk) (n t : Int) : totV (redB b n t) = totV b ∧ paidV (redB b n t) = paidV b + (if redE b n t = 0 then redV b n t else 0) := by
  unfold totV paidV redB redV
  by_cases h : redE b n t = 0
  · obtain ⟨_, h1, h2, h3, _⟩ := redE_ok h
    have hk : (n - 1).toNat < b.es.length := by omega
    simp only [h, if_true, sumIf_set _ _ _ _ hk]
    unfold entAt at h3 ⊢
    simp only [h3, if_true, Bool.false_eq_true, if_false]
    omega
  · simp [h]
theorem once (b : Bk) (t : Int) (h : momE b t = 0) : totV b = paidV b + openV b t + lapV b t := by
  unfold totV paidV openV lapV
  simp only [h, if_true]
  exact sumIf_split b.es t
theorem passes (b : Bk) (hb : BkOk b) (t u : Int) (h : t ≤ u) (ht : momE b t = 0) (hu : momE b u = 0) : openV b u ≤ openV b t ∧ lapV b t ≤ lapV b u ∧ openV b t + lapV b t = openV b u + lapV b u := by
  have h1 := once b t ht
  have h2 := once b u hu
  refine ⟨?_, ?_, by omega⟩
  · unfold openV
    simp only [ht, hu, if_true]
    exact sumIf_mono _ _ _ hb.amt fun e he => by simp [isOpen] at he ⊢; exact ⟨he.1, by omega⟩
  · unfold lapV
    simp only [ht, hu, if_true]
    exact sumIf_mono _ _ _ hb.amt fun e he => by simp [isLapsed] at he ⊢; exact ⟨he.1, by omega⟩

/-- A voucher is not redeemed twice. -/
theorem twice {b : Bk} (hb : BkOk b) {n t : Int} (h : redE b n t = 0) (u : Int) : 0 < redV b n t ∧ redE (redB b n t) n t = 28 ∧ redE (redB b n t) n u ≠ 0 := by
  obtain ⟨hm, h1, h2, h3, h4⟩ := redE_ok h
  obtain ⟨t1, t2, _⟩ := momE_ok hm
  have hk : (n - 1).toNat < b.es.length := by omega
  have hamt := hb.amt _ (entAt_mem h1 h2)
  have hB : redB b n t = { b with es := b.es.set (n - 1).toNat { entAt b n with red := true }, now := t } := by simp [redB, h]
  have hmom : momE (redB b n t) t = 0 := by
    rw [hB]; unfold momE; rw [if_neg (by omega), if_neg (by simp)]
  have hE : (entAt (redB b n t) n).red = true := by
    rw [hB]
    unfold entAt
    simp only [List.getD_eq_getElem?_getD]
    rw [List.getElem?_set_self hk]
    rfl
  have hl : ((redB b n t).es.length : Int) = b.es.length := by rw [hB]; simp
  refine ⟨by simp only [redV, h, if_true]; omega, ?_, ?_⟩
  · unfold redE
    rw [hmom]
    simp only [ne_eq, not_true_eq_false, if_false]
    rw [if_neg (by omega), if_pos hE]
  · intro h0
    have := (redE_ok h0).2.2.2.1
    rw [hE] at this
    cases this

end Go.Proofs.Ytbpeiljpbcgjaaa
