/- TariffChecks, TariffAts, TariffWeights, TariffItems, TariffBases: for every input the program and its reference agree. -/
import Derived.Test.YtaidcdcikjbjjaaTariffK
import Derived.Test.YtaidcdcikjbjjaaArgs
import Derived.Test.YtaidcdcikjbjjaaRows
import Derived.Test.YtaidcdcikjbjjaaChecked
namespace Go.Proofs.Ytaidcdcikjbjjaa
set_option linter.unusedVariables false
set_option linter.unusedSimpArgs false
open Go.ChangeShapes Go.WideShapes Go.ChangeAt Go.RowKit

theorem okWide_mixed {P : Program} {w : World} {r : Reach} {base : Nat} {t : TypeId} {v : Value} {ts : List TypeId} {tb : TypeId} {k : IntKind} (h : Value.okWide P w r base t v) (hs : ∃ fs, P.underlying t = some (.struct fs)) (hC : P.cellsOf t = ts.length + 1)
    (hts : P.cellTypes P.depth t = some (ts ++ [tb])) (hk : ∀ u ∈ ts, P.underlying u = some (.int k)) (hb : P.underlying tb = some .bool) :
    ∃ (zs : List Int) (b : Bool), v = .agg (zs.map (Value.int k) ++ [Value.bool b]).toArray ∧ zs.length = ts.length ∧ ∀ z ∈ zs, k.has z := by
  have h' : ∃ cs, v = .agg cs ∧ cs.size = P.cellsOf t ∧ Row.okWide P w r base t cs := by
    unfold Value.okWide at h
    obtain ⟨fs, hs⟩ := hs
    rw [hs] at h
    exact h
  obtain ⟨cs, rfl, hsz, ts', hts', hlen, hc⟩ := h'
  rw [hts] at hts'
  injection hts' with hts'
  subst hts'
  have hsize : cs.toList.length = ts.length + 1 := by rw [← hC, ← hsz]; simp
  have hcell : ∀ (i : Nat) (x : Value), cs.toList[i]? = some x → ∃ u, (ts ++ [tb])[i]? = some u ∧ Cell.okWide P w r base u x := by
    intro i x hx
    have hi : i < ts.length + 1 := by rw [← hsize]; exact (List.getElem?_eq_some_iff.1 hx).1
    obtain ⟨u, hu, hok⟩ := hc i x (by simpa using hx)
    rw [List.length_append, List.length_singleton, Nat.mod_eq_of_lt hi] at hu
    exact ⟨u, hu, hok⟩
  have hall : ∀ x ∈ cs.toList.take ts.length, ∃ z, x = .int k z ∧ k.has z := by
    intro x hx
    obtain ⟨i, hi, rfl⟩ := List.getElem_of_mem hx
    have hi' : i < ts.length := by simp at hi; omega
    rw [List.getElem_take]
    obtain ⟨u, hu, hok⟩ := hcell i _ (List.getElem?_eq_getElem (by omega))
    rw [List.getElem?_append_left hi'] at hu
    have hu' : u ∈ ts := List.mem_of_getElem? hu
    unfold Cell.okWide at hok
    rw [hk u hu'] at hok
    generalize cs.toList[i]'(by omega) = x at hok ⊢
    cases x <;> simp only [Cell.ok, hk u hu'] at hok
    obtain ⟨rfl, h⟩ := hok
    exact ⟨_, rfl, h⟩
  obtain ⟨u, hu, hok⟩ := hcell ts.length _ (List.getElem?_eq_getElem (by omega))
  rw [List.getElem?_append_right (Nat.le_refl _)] at hu
  simp at hu
  subst hu
  unfold Cell.okWide at hok
  rw [hb] at hok
  obtain ⟨zs, hz, hh⟩ := ints_of hall
  have hlast : ∃ b, cs.toList[ts.length]'(by omega) = .bool b := by
    generalize cs.toList[ts.length]'(by omega) = x at hok ⊢
    cases x <;> simp only [Cell.ok, hb] at hok
    exact ⟨_, rfl⟩
  obtain ⟨b, hbv⟩ := hlast
  refine ⟨zs, b, ?_, ?_, hh⟩
  · rw [← hz]
    congr 1
    have : cs.toList = cs.toList.take ts.length ++ [Value.bool b] := by
      rw [← hbv, List.take_append_getElem, List.take_of_length_le (by omega)]
    rw [← this]
  · have := congrArg List.length hz
    rw [List.length_take, List.length_map] at this
    omega

set_option maxRecDepth 100000 in
theorem tariffChecks_lifted (os : Os) (started : os.Started) (H : Type) (enc : TypeId × Value → H) :
    ReturnsInHanded {} Try.checked os 3 .any (Rows.tariffChecksSpec.pre6 enc Try.prog Try.f3 Rows.tariffChecksRow.domain false) (Rows.tariffChecksSpec.post enc Try.prog Try.f3 false true false false) := by
  refine law_of_walk (C := Try.checked) (by kernel_rfl) started (by kernel_rfl) Try.func3
    (ChangeSpec.witness6 (enc := enc) (C := Try.checked) false ⟨#[], #[.slice none 0 0], []⟩ 8 (by kernel_rfl) (by kernel_rfl) (by kernel_rfl) (by kernel_rfl))
    (by kernel_rfl) ?_ rfl ?_ rfl Try.underlying4 ?_
  · rw [Try.params3]
    intro t ht
    simp at ht
    subst ht
    exact ⟨by kernel_rfl, of_decide_eq_true (by kernel_rfl)⟩
  · rw [Try.params3]
    intro ds hds
    match ds, hds with
    | [d0], _ => rfl
  · intro W base args ds ps hval hA hlt
    rw [Try.params3] at hA hval
    obtain ⟨v0, vs0, d0, ds0, p0, q0, hargs, rfl, rfl, h0, r0⟩ := trodAll_cons hA
    obtain ⟨rfl, rfl, rfl⟩ := trodAll_nil r0
    obtain rfl : args = #[v0] := by cases args; simp_all
    obtain ⟨l, hl, ql⟩ := open_rowin (k := .i64) Try.underlying22 (show Try.prog.cellsOf 31 = 5 by kernel_rfl) (by decide) 6 (by kernel_rfl) decT encT decT_enc (hval 0 22 v0 rfl rfl) h0
    exact law_checks hl

theorem tariffChecks_holds : Rows.TariffChecksSaid :=
  OpenClaim.holds_of_wide 3 Try.f3 rfl rfl rfl rfl rfl rfl rfl ⟨rfl, rfl, rfl, rfl, rfl⟩ rfl rfl rfl rfl rfl (by kernel_rfl) Try.func3 (by kernel_rfl)
    (of_decide_eq_true (by kernel_rfl)) (by unfold Func.isWrapper; first | (rw [if_pos (by decide +kernel)]; kernel_rfl) | (rw [if_neg (by decide +kernel)]; exact ⟨rfl, rfl⟩))
    (fun os started H enc _ => tariffChecks_lifted os started H enc)
#print axioms tariffChecks_holds

set_option maxRecDepth 100000 in
theorem tariffAts_lifted (os : Os) (started : os.Started) (H : Type) (enc : TypeId × Value → H) :
    ReturnsInHanded {} Try.checked os 4 .any (Rows.tariffAtsSpec.pre6 enc Try.prog Try.f4 Rows.tariffAtsRow.domain false) (Rows.tariffAtsSpec.post enc Try.prog Try.f4 false true false false) := by
  refine law_of_walk (C := Try.checked) (by kernel_rfl) started (by kernel_rfl) Try.func4
    (ChangeSpec.witness6 (enc := enc) (C := Try.checked) false ⟨#[], #[.slice none 0 0, .int .i64 0], []⟩ 8 (by kernel_rfl) (by kernel_rfl) (by kernel_rfl) (by kernel_rfl))
    (by kernel_rfl) ?_ rfl ?_ rfl Try.underlying4 ?_
  · rw [Try.params4]
    intro t ht
    simp at ht
    rcases ht with rfl | rfl
    · exact ⟨by kernel_rfl, of_decide_eq_true (by kernel_rfl)⟩
    · exact ⟨by kernel_rfl, of_decide_eq_true (by kernel_rfl)⟩
  · rw [Try.params4]
    intro ds hds
    match ds, hds with
    | [d0, d1], _ => rfl
  · intro W base args ds ps hval hA hlt
    rw [Try.params4] at hA hval
    obtain ⟨v0, vs0, d0, ds0, p0, q0, hargs, rfl, rfl, h0, r0⟩ := trodAll_cons hA
    obtain ⟨v1, vs1, d1, ds1, p1, q1, rfl, rfl, rfl, h1, r1⟩ := trodAll_cons r0
    obtain ⟨rfl, rfl, rfl⟩ := trodAll_nil r1
    obtain rfl : args = #[v0, v1] := by cases args; simp_all
    obtain ⟨l, hl, ql⟩ := open_rowin (k := .i64) Try.underlying22 (show Try.prog.cellsOf 31 = 5 by kernel_rfl) (by decide) 6 (by kernel_rfl) decT encT decT_enc (hval 0 22 v0 rfl rfl) h0
    obtain ⟨d, rfl, hd⟩ := okWide_int1 (hval 1 3 v1 rfl rfl) Try.underlying3
    exact law_ats hl d

theorem tariffAts_holds : Rows.TariffAtsSaid :=
  OpenClaim.holds_of_wide 4 Try.f4 rfl rfl rfl rfl rfl rfl rfl ⟨rfl, rfl, rfl, rfl, rfl⟩ rfl rfl rfl rfl rfl (by kernel_rfl) Try.func4 (by kernel_rfl)
    (of_decide_eq_true (by kernel_rfl)) (by unfold Func.isWrapper; first | (rw [if_pos (by decide +kernel)]; kernel_rfl) | (rw [if_neg (by decide +kernel)]; exact ⟨rfl, rfl⟩))
    (fun os started H enc _ => tariffAts_lifted os started H enc)
#print axioms tariffAts_holds

set_option maxRecDepth 100000 in
theorem tariffWeights_lifted (os : Os) (started : os.Started) (H : Type) (enc : TypeId × Value → H) :
    ReturnsInHanded {} Try.checked os 5 .any (Rows.tariffWeightsSpec.pre6 enc Try.prog Try.f5 Rows.tariffWeightsRow.domain false) (Rows.tariffWeightsSpec.post enc Try.prog Try.f5 false true false false) := by
  refine law_of_walk (C := Try.checked) (by kernel_rfl) started (by kernel_rfl) Try.func5
    (ChangeSpec.witness6 (enc := enc) (C := Try.checked) false ⟨#[], #[.agg #[.int .i64 0, .int .i64 0, .int .i64 0, .int .i64 0, .int .i64 0], .agg #[.int .i64 0, .int .i64 0]], []⟩ 8 (by kernel_rfl) (by kernel_rfl) (by kernel_rfl) (by kernel_rfl))
    (by kernel_rfl) ?_ rfl ?_ rfl Try.underlying4 ?_
  · rw [Try.params5]
    intro t ht
    simp at ht
    rcases ht with rfl | rfl
    · exact ⟨by kernel_rfl, of_decide_eq_true (by kernel_rfl)⟩
    · exact ⟨by kernel_rfl, of_decide_eq_true (by kernel_rfl)⟩
  · rw [Try.params5]
    intro ds hds
    match ds, hds with
    | [d0, d1], _ => rfl
  · intro W base args ds ps hval hA hlt
    rw [Try.params5] at hA hval
    obtain ⟨v0, vs0, d0, ds0, p0, q0, hargs, rfl, rfl, h0, r0⟩ := trodAll_cons hA
    obtain ⟨v1, vs1, d1, ds1, p1, q1, rfl, rfl, rfl, h1, r1⟩ := trodAll_cons r0
    obtain ⟨rfl, rfl, rfl⟩ := trodAll_nil r1
    obtain rfl : args = #[v0, v1] := by cases args; simp_all
    obtain ⟨zs0, rfl, hz0, hh0⟩ := okWide_cells (k := .i64) (hval 0 31 v0 rfl rfl) (.inl ⟨_, Try.underlying31⟩) (show Try.prog.cellTypes Try.prog.depth 31 = some [3, 3, 3, 3, 3] by kernel_rfl) (by intro u hu; simp at hu; subst hu; exact Try.underlying3)
    replace hz0 : zs0.length = 5 := hz0.trans (by kernel_rfl)
    obtain ⟨a, b, c, d, e, rfl⟩ := len5 hz0
    obtain ⟨zs1, rfl, hz1, hh1⟩ := okWide_cells (k := .i64) (hval 1 33 v1 rfl rfl) (.inl ⟨_, Try.underlying33⟩) (show Try.prog.cellTypes Try.prog.depth 33 = some [3, 3] by kernel_rfl) (by intro u hu; simp at hu; subst hu; exact Try.underlying3)
    replace hz1 : zs1.length = 2 := hz1.trans (by kernel_rfl)
    obtain ⟨lo, hi, rfl⟩ := len2 hz1
    exact law_weights ⟨a, b, c, d, e⟩ lo hi W

theorem tariffWeights_holds : Rows.TariffWeightsSaid :=
  OpenClaim.holds_of_wide 5 Try.f5 rfl rfl rfl rfl rfl rfl rfl ⟨rfl, rfl, rfl, rfl, rfl⟩ rfl rfl rfl rfl rfl (by kernel_rfl) Try.func5 (by kernel_rfl)
    (of_decide_eq_true (by kernel_rfl)) (by unfold Func.isWrapper; first | (rw [if_pos (by decide +kernel)]; kernel_rfl) | (rw [if_neg (by decide +kernel)]; exact ⟨rfl, rfl⟩))
    (fun os started H enc _ => tariffWeights_lifted os started H enc)
#print axioms tariffWeights_holds

set_option maxRecDepth 100000 in
theorem tariffItems_lifted (os : Os) (started : os.Started) (H : Type) (enc : TypeId × Value → H) :
    ReturnsInHanded {} Try.checked os 6 .any (Rows.tariffItemsSpec.pre6 enc Try.prog Try.f6 Rows.tariffItemsRow.domain false) (Rows.tariffItemsSpec.post enc Try.prog Try.f6 false true false false) := by
  refine law_of_walk (C := Try.checked) (by kernel_rfl) started (by kernel_rfl) Try.func6
    (ChangeSpec.witness6 (enc := enc) (C := Try.checked) false ⟨#[], #[.agg #[.int .i64 0, .int .i64 0, .int .i64 0, .int .i64 0, .int .i64 0], .agg #[.int .i64 0, .int .i64 0, .int .i64 0, .int .i64 0, .int .i64 0, .int .i64 0, .bool false]], []⟩ 8 (by kernel_rfl) (by kernel_rfl) (by kernel_rfl) (by kernel_rfl))
    (by kernel_rfl) ?_ rfl ?_ rfl Try.underlying4 ?_
  · rw [Try.params6]
    intro t ht
    simp at ht
    rcases ht with rfl | rfl
    · exact ⟨by kernel_rfl, of_decide_eq_true (by kernel_rfl)⟩
    · exact ⟨by kernel_rfl, of_decide_eq_true (by kernel_rfl)⟩
  · rw [Try.params6]
    intro ds hds
    match ds, hds with
    | [d0, d1], _ => rfl
  · intro W base args ds ps hval hA hlt
    rw [Try.params6] at hA hval
    obtain ⟨v0, vs0, d0, ds0, p0, q0, hargs, rfl, rfl, h0, r0⟩ := trodAll_cons hA
    obtain ⟨v1, vs1, d1, ds1, p1, q1, rfl, rfl, rfl, h1, r1⟩ := trodAll_cons r0
    obtain ⟨rfl, rfl, rfl⟩ := trodAll_nil r1
    obtain rfl : args = #[v0, v1] := by cases args; simp_all
    obtain ⟨zs0, rfl, hz0, hh0⟩ := okWide_cells (k := .i64) (hval 0 31 v0 rfl rfl) (.inl ⟨_, Try.underlying31⟩) (show Try.prog.cellTypes Try.prog.depth 31 = some [3, 3, 3, 3, 3] by kernel_rfl) (by intro u hu; simp at hu; subst hu; exact Try.underlying3)
    replace hz0 : zs0.length = 5 := hz0.trans (by kernel_rfl)
    obtain ⟨a, b, c, d, e, rfl⟩ := len5 hz0
    obtain ⟨zs1, vo, rfl, hz1, hh1⟩ := okWide_mixed (k := .i64) (ts := [3, 3, 3, 3, 3, 3]) (hval 1 37 v1 rfl rfl) ⟨_, Try.underlying37⟩ (by kernel_rfl) (show Try.prog.cellTypes Try.prog.depth 37 = some ([3, 3, 3, 3, 3, 3] ++ [4]) by kernel_rfl) (by intro u hu; simp at hu; subst hu; exact Try.underlying3) Try.underlying4
    replace hz1 : zs1.length = 6 := hz1
    obtain ⟨id, cn, ve, at_, lo, hi, rfl⟩ := len6 hz1
    exact law_items ⟨a, b, c, d, e⟩ id cn ve at_ lo hi vo W

theorem tariffItems_holds : Rows.TariffItemsSaid :=
  OpenClaim.holds_of_wide 6 Try.f6 rfl rfl rfl rfl rfl rfl rfl ⟨rfl, rfl, rfl, rfl, rfl⟩ rfl rfl rfl rfl rfl (by kernel_rfl) Try.func6 (by kernel_rfl)
    (of_decide_eq_true (by kernel_rfl)) (by unfold Func.isWrapper; first | (rw [if_pos (by decide +kernel)]; kernel_rfl) | (rw [if_neg (by decide +kernel)]; exact ⟨rfl, rfl⟩))
    (fun os started H enc _ => tariffItems_lifted os started H enc)
#print axioms tariffItems_holds

set_option maxRecDepth 100000 in
theorem tariffBases_lifted (os : Os) (started : os.Started) (H : Type) (enc : TypeId × Value → H) :
    ReturnsInHanded {} Try.checked os 7 .any (Rows.tariffBasesSpec.pre6 enc Try.prog Try.f7 Rows.tariffBasesRow.domain false) (Rows.tariffBasesSpec.post enc Try.prog Try.f7 false true false false) := by
  refine law_of_walk (C := Try.checked) (by kernel_rfl) started (by kernel_rfl) Try.func7
    (ChangeSpec.witness6 (enc := enc) (C := Try.checked) false ⟨#[], #[.slice none 0 0, .agg #[.int .i64 0, .int .i64 0]], []⟩ 8 (by kernel_rfl) (by kernel_rfl) (by kernel_rfl) (by kernel_rfl))
    (by kernel_rfl) ?_ rfl ?_ rfl Try.underlying4 ?_
  · rw [Try.params7]
    intro t ht
    simp at ht
    rcases ht with rfl | rfl
    · exact ⟨by kernel_rfl, of_decide_eq_true (by kernel_rfl)⟩
    · exact ⟨by kernel_rfl, of_decide_eq_true (by kernel_rfl)⟩
  · rw [Try.params7]
    intro ds hds
    match ds, hds with
    | [d0, d1], _ => rfl
  · intro W base args ds ps hval hA hlt
    rw [Try.params7] at hA hval
    obtain ⟨v0, vs0, d0, ds0, p0, q0, hargs, rfl, rfl, h0, r0⟩ := trodAll_cons hA
    obtain ⟨v1, vs1, d1, ds1, p1, q1, rfl, rfl, rfl, h1, r1⟩ := trodAll_cons r0
    obtain ⟨rfl, rfl, rfl⟩ := trodAll_nil r1
    obtain rfl : args = #[v0, v1] := by cases args; simp_all
    obtain ⟨l, hl, ql⟩ := open_rowin (k := .i64) Try.underlying22 (show Try.prog.cellsOf 31 = 5 by kernel_rfl) (by decide) 6 (by kernel_rfl) decT encT decT_enc (hval 0 22 v0 rfl rfl) h0
    obtain ⟨zs1, rfl, hz1, hh1⟩ := okWide_cells (k := .i64) (hval 1 44 v1 rfl rfl) (.inl ⟨_, Try.underlying44⟩) (show Try.prog.cellTypes Try.prog.depth 44 = some [3, 3] by kernel_rfl) (by intro u hu; simp at hu; subst hu; exact Try.underlying3)
    replace hz1 : zs1.length = 2 := hz1.trans (by kernel_rfl)
    obtain ⟨lo, hi, rfl⟩ := len2 hz1
    exact law_bases hl lo hi

theorem tariffBases_holds : Rows.TariffBasesSaid :=
  OpenClaim.holds_of_wide 7 Try.f7 rfl rfl rfl rfl rfl rfl rfl ⟨rfl, rfl, rfl, rfl, rfl⟩ rfl rfl rfl rfl rfl (by kernel_rfl) Try.func7 (by kernel_rfl)
    (of_decide_eq_true (by kernel_rfl)) (by unfold Func.isWrapper; first | (rw [if_pos (by decide +kernel)]; kernel_rfl) | (rw [if_neg (by decide +kernel)]; exact ⟨rfl, rfl⟩))
    (fun os started H enc _ => tariffBases_lifted os started H enc)
#print axioms tariffBases_holds

end Go.Proofs.Ytaidcdcikjbjjaa
