/- Sets, places drawn whole; sets compared by the laws. -/
import Derived.Test.YtomeglmblhfafaaGreatDoorcE1
set_option linter.unusedSectionVars false
set_option linter.all false
set_option linter.unusedVariables false
set_option linter.unusedSimpArgs false
set_option maxRecDepth 100000
namespace Go.Proofs.YtomeglmblhfafaaGreatDoor
open Go.Lft

theorem range_eq (x y : Range) : (x.lo = y.lo ∧ x.hi = y.hi) ↔ x = y := by cases x; cases y; simp
theorem eq_sameInts (xs ys : List Int) (h1 : xs.length ≤ 16777216) : lim E 60 [.lst false 3 1 (xs.map (.int .i64)), .lst false 3 1 (ys.map (.int .i64))] = some (.bool (decide (xs = ys)), []) := by
  refine lim_run (E := E) rfl Tryz.func60 rfl (by kernel_rfl) (by kernel_rfl) ?_
  simp [Tryz.f60, tmpAt]
  refine RB_ndec ?_ ?_ <;> intro hl
  · simp
    intro hc; subst hc; exact hl rfl
  · simp
    have hl : xs.length = ys.length := by omega
    refine loop_fr [0, 1] [] (fun m st => ∃ (i : Nat), i + m = xs.length ∧ xs.take i = ys.take i ∧ st.env 5 = .int .i64 i) (xs.length) _ ?_ ?_
    · exact ⟨0, by simp⟩
    rintro m0 ⟨env, rs⟩ hU0 hV0 ⟨i, hi, hs, e0_5⟩ ih0; simp at hU0 e0_5; clear hV0
    have hw := wrap_up (show i < 4611686018427387904 by omega)
    simp [hU0, e0_5]
    refine RB_dec ?_ ?_ <;> intro h
    · have h' : i < ys.length := by omega
      simp [hU0, e0_5, h, h']
      refine RB_split ?_ ?_ <;> intro h2 <;> simp [hU0, e0_5]
      · intro hc; subst hc; simp at h2
      · refine ih0 (m0 - 1) _ (by omega) ?_ ?_ ⟨i + 1, by omega, take_eq hs h h' (by simpa using h2), ?_⟩
        · simp [hU0, e0_5]
        · simp [hU0, e0_5]
        simp [hU0, e0_5, hw]
    · simp [hU0, e0_5, h]
      exact take_all hs h hl
end Go.Proofs.YtomeglmblhfafaaGreatDoor
