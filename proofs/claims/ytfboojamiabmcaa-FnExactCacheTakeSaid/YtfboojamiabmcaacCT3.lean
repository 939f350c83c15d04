/- Copies that take lines: CacheTake of the program. -/
import Derived.Test.YtfboojamiabmcaacCT2
set_option linter.unusedSectionVars false
set_option linter.all false
set_option linter.unusedVariables false
set_option linter.unusedSimpArgs false
set_option maxRecDepth 100000
namespace Go.Proofs.Ytfboojamiabmcaa
open Go.Lft

def takesI (c : Cache) (xs : List Line) : Cache := xs.foldl takeI c
theorem takesI_next (c : Cache) (xs : List Line) (i : Nat) (h : i < xs.length) : takesI c (xs.take (i + 1)) = takeI (takesI c (xs.take i)) xs[i] := by
  unfold takesI
  rw [List.take_succ_eq_append_getElem h, List.foldl_append]
  rfl
theorem takesI_len (c : Cache) : ∀ (xs : List Line), (takesI c xs).seens.length ≤ c.seens.length + xs.length ∧ (takesI c xs).box = c.box := by
  intro xs
  induction xs generalizing c with
  | nil => exact ⟨Nat.le_refl _, rfl⟩
  | cons x xs ih =>
    have h1 := takeI_len c x
    have h2 := ih (takeI c x)
    have h3 := takeI_box c x
    unfold takesI at h2 ⊢
    simp only [List.foldl_cons, List.length_cons]
    exact ⟨by omega, by rw [h2.2, h3]⟩
noncomputable def cacheTake (c : Cache) (xs : List Line) : Cache := if cacheOk c = true ∧ cacheOk (takesI c xs) = true then takesI c xs else c
theorem eq_copyCache (c : Cache) (h : c.seens.length ≤ 16777216) : lim E 35 [encCache false false c] = some (encCache false true c, []) := by
  have w := eq_copySeens c.seens h
  try simp at w
  refine lim_run (E := E) rfl Try.func35 rfl (by kernel_rfl) (by kernel_rfl) ?_
  simp [Try.f35, tmpAt, w]
set_option maxHeartbeats 2000000 in
theorem eq_CacheTake (c : Cache) (xs : List Line) (hc : szCache c ≤ 1048576) (hl : xs.length ≤ 1048576) (hcl : c.seens.length + xs.length ≤ 1048576) (hs : ∀ x ∈ xs, x.set_.length ≤ 16777216) : lim E 10 [encCache false false c, .lst false 73 7 (xs.map (encLine false false))] = some (encCache false true (cacheTake c xs), []) := by
  have hz : szCache c = c.box.length + c.seens.length := rfl
  have w1 := eq_copyCache c (by omega)
  try simp at w1
  have w2 := eq_CacheOk c (by omega)
  try simp at w2
  have hall := takesI_len c xs
  have hzT : szCache (takesI c xs) ≤ 16777216 := by
    have : szCache (takesI c xs) = (takesI c xs).box.length + (takesI c xs).seens.length := rfl
    rw [this, hall.2]; omega
  have w3 := eq_CacheOk (takesI c xs) hzT
  try simp at w3
  have hbnd : ∀ i, (takesI c (xs.take i)).seens.length ≤ 1048576 := fun i => by
    have := (takesI_len c (xs.take i)).1
    rw [List.length_take] at this
    omega
  have hnx := takesI_next c xs
  refine lim_run (E := E) rfl Try.func10 rfl (by kernel_rfl) (by kernel_rfl) ?_
  simp [Try.f10, tmpAt, w1]
  refine loop_fr [2, 4, 5, 10, 11] [(2,0), (4,0)] (fun m st => ∃ (i : Nat) (c' : Cache), i + m = xs.length ∧ c' = takesI c (xs.take i) ∧ st.env 12 = .int .i64 i ∧ st.rs (5,0) = some ⟨true, encCache false true c'⟩) (xs.length) _ ?_ ?_
  · exact ⟨0, c, by simp [takesI]⟩
  rintro m0 ⟨env, rs⟩ hU0 hV0 ⟨i, c', hi, hc', e0_12, r0_5_0⟩ ih0; simp at hU0 hV0 e0_12 r0_5_0
  have hu := wrap_up (show i < 4611686018427387904 by omega)
  have hb := hbnd i
  rw [← hc'] at hb
  simp [hU0, hV0, e0_12, r0_5_0]
  refine RB_dec ?_ ?_ <;> intro h
  · have wt := eq_takeLine c' xs[i] (hs _ (List.getElem_mem h)) hb
    try simp at wt
    have hn := hnx i h
    rw [← hc'] at hn
    simp [hU0, hV0, e0_12, r0_5_0, h, hu, wt]
    refine ih0 (m0 - 1) _ (by omega) ?_ ?_ ⟨i + 1, takeI c' xs[i], by omega, hn.symm, ?_⟩
    · simp [hU0, hV0, e0_12, r0_5_0]
    · simp [hU0, hV0, e0_12, r0_5_0]
    simp [hU0, hV0, e0_12, r0_5_0, hu]
  · have hf : xs.take i = xs := List.take_of_length_le (by clear hu; omega)
    rw [hf] at hc'
    rw [← hc'] at w3
    have hT : cacheTake c xs = if cacheOk c = true ∧ cacheOk c' = true then c' else c := by unfold cacheTake; rw [hc']
    rw [hT]
    cases o1 : cacheOk c
    · rw [o1] at w2
      simp [hU0, hV0, e0_12, r0_5_0, h, tmpAt, w1, w2]
    · rw [o1] at w2
      cases o2 : cacheOk c'
      · rw [o2] at w3
        simp [hU0, hV0, e0_12, r0_5_0, h, tmpAt, w1, w2, w3]
      · rw [o2] at w3
        simp [hU0, hV0, e0_12, r0_5_0, h, tmpAt, w1, w2, w3]
end Go.Proofs.Ytfboojamiabmcaa
