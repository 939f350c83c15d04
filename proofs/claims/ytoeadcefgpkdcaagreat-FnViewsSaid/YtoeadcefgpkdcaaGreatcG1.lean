/- The mirror: the program's TakeLine; sameView, sameLines of a thing and itself. -/
import Derived.Test.YtoeadcefgpkdcaaGreatcE2
set_option linter.unusedSectionVars false
set_option linter.all false
set_option linter.unusedVariables false
set_option linter.unusedSimpArgs false
set_option maxRecDepth 100000
namespace Go.Proofs.YtoeadcefgpkdcaaGreat
open Go.Lft

theorem eq_sameView (a : View) (h : a.uids.length ≤ 16777216) : lim E 15 [encView false a, encView false a] = some (.bool true, []) := by
  have w := eq_sameInts a.uids a.uids h
  simp at w
  refine lim_run (E := E) rfl Tryz.func15 rfl (by kernel_rfl) (by kernel_rfl) ?_
  simp [Tryz.f15, tmpAt, w]
theorem eq_sameLine (a : Line) (h : a.set_.length ≤ 16777216) : lim E 41 [encLine false false a, encLine false false a] = some (.bool true, []) := by
  have w := eq_sameSet a.set_ a.set_ h
  simp at w
  refine lim_run (E := E) rfl Tryz.func41 rfl (by kernel_rfl) (by kernel_rfl) ?_
  simp [Tryz.f41, tmpAt, w]
theorem eq_sameLines (xs : List Line) (h1 : xs.length ≤ 16777216) (h2 : ∀ x ∈ xs, x.set_.length ≤ 16777216) : lim E 16 [.lst false 55 7 (xs.map (encLine false false)), .lst false 55 7 (xs.map (encLine false false))] = some (.bool true, []) := by
  refine lim_run (E := E) rfl Tryz.func16 rfl (by kernel_rfl) (by kernel_rfl) ?_
  simp [Tryz.f16, tmpAt]
  refine loop_fr [0, 1] [] (fun m st => ∃ (i : Nat), i + m = xs.length ∧ st.env 5 = .int .i64 i) (xs.length) _ ?_ ?_
  · exact ⟨0, by simp⟩
  rintro m0 ⟨env, rs⟩ hU0 hV0 ⟨i, hi, e0_5⟩ ih0; simp at hU0 e0_5; clear hV0
  have hw := wrap_up (show i < 4611686018427387904 by omega)
  simp [hU0, e0_5]
  refine RB_dec ?_ ?_ <;> intro h
  · have w := eq_sameLine xs[i] (h2 _ (List.getElem_mem h))
    try simp at w
    simp [hU0, e0_5, h, w, tmpAt]
    refine ih0 (m0 - 1) _ (by omega) ?_ ?_ ⟨i + 1, by omega, ?_⟩
    · simp [hU0, e0_5]
    · simp [hU0, e0_5]
    simp [hU0, e0_5, hw]
  · simp [hU0, e0_5, h]
end Go.Proofs.YtoeadcefgpkdcaaGreat
