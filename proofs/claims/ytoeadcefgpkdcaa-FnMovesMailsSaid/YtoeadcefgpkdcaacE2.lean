/- Sets, places drawn whole; sets compared by the laws. -/
import Derived.Test.YtoeadcefgpkdcaacE1
set_option linter.unusedSectionVars false
set_option linter.all false
set_option linter.unusedVariables false
set_option linter.unusedSimpArgs false
set_option maxRecDepth 100000
namespace Go.Proofs.Ytoeadcefgpkdcaa
open Go.Lft

theorem range_eq (x y : Range) : (x.lo = y.lo ∧ x.hi = y.hi) ↔ x = y := by cases x; cases y; simp
theorem eq_sameSet (xs ys : List Range) (h1 : xs.length ≤ 16777216) : lim E 24 [.lst false 112 2 (xs.map encRange), .lst false 112 2 (ys.map encRange)] = some (.bool (decide (xs = ys)), []) := by
  refine lim_run (E := E) rfl Try.func24 rfl (by kernel_rfl) (by kernel_rfl) ?_
  simp [Try.f24, tmpAt]
  refine RB_ndec ?_ ?_ <;> intro hl
  · simp
    intro hc; subst hc; exact hl rfl
  · simp
    have hl : xs.length = ys.length := by omega
    refine loop_fr [0, 1] [] (fun m st => ∃ (i : Nat), i + m = xs.length ∧ xs.take i = ys.take i ∧ st.env 5 = .int .i64 i) (xs.length) _ ?_ ?_
    · exact ⟨0, by simp⟩
    rintro m0 ⟨env, rs⟩ hU0 hV0 ⟨i, hi, hs, e0_5⟩ ih0; simp at hU0 e0_5; clear hV0
    have hw := wrap_up (show i < 4611686018427387904 by omega)
    simp [hU0, e0_5]
    refine RB_dec ?_ ?_ <;> intro h
    · have h' : i < ys.length := by omega
      simp [hU0, e0_5, h, h']
      refine RB_split ?_ ?_ <;> intro h2 <;> simp [hU0, e0_5]
      · intro hc; subst hc; simp at h2
      · refine ih0 (m0 - 1) _ (by omega) ?_ ?_ ⟨i + 1, by omega, take_eq hs h h' ((range_eq _ _).1 (by simpa [and_assoc] using h2)), ?_⟩
        · simp [hU0, e0_5]
        · simp [hU0, e0_5]
        simp [hU0, e0_5, hw]
    · simp [hU0, e0_5, h]
      exact take_all hs h hl
theorem eq_sameInts (xs ys : List Int) (h1 : xs.length ≤ 16777216) : lim E 61 [.lst false 3 1 (xs.map (.int .i64)), .lst false 3 1 (ys.map (.int .i64))] = some (.bool (decide (xs = ys)), []) := by
  refine lim_run (E := E) rfl Try.func61 rfl (by kernel_rfl) (by kernel_rfl) ?_
  simp [Try.f61, tmpAt]
  refine RB_ndec ?_ ?_ <;> intro hl
  · simp
    intro hc; subst hc; exact hl rfl
  · simp
    have hl : xs.length = ys.length := by omega
    refine loop_fr [0, 1] [] (fun m st => ∃ (i : Nat), i + m = xs.length ∧ xs.take i = ys.take i ∧ st.env 5 = .int .i64 i) (xs.length) _ ?_ ?_
    · exact ⟨0, by simp⟩
    rintro m0 ⟨env, rs⟩ hU0 hV0 ⟨i, hi, hs, e0_5⟩ ih0; simp at hU0 e0_5; clear hV0
    have hw := wrap_up (show i < 4611686018427387904 by omega)
    simp [hU0, e0_5]
    refine RB_dec ?_ ?_ <;> intro h
    · have h' : i < ys.length := by omega
      simp [hU0, e0_5, h, h']
      refine RB_split ?_ ?_ <;> intro h2 <;> simp [hU0, e0_5]
      · intro hc; subst hc; simp at h2
      · refine ih0 (m0 - 1) _ (by omega) ?_ ?_ ⟨i + 1, by omega, take_eq hs h h' (by simpa using h2), ?_⟩
        · simp [hU0, e0_5]
        · simp [hU0, e0_5]
        simp [hU0, e0_5, hw]
    · simp [hU0, e0_5, h]
      exact take_all hs h hl
theorem ex_DrawSets (code : S) (hc : code.length ≤ 1048576) : ∃ r : List Range × List Range, (setOk r.1 = true ∧ setOk r.2 = true) ∧ lim E 20 [.lst false 5 1 (ofBytes code)] = some (.tup [.lst true 112 2 (r.1.map encRange), .lst true 112 2 (r.2.map encRange)], []) := by
  refine ⟨⟨(setDraw (newCur code hc)).1, (setDraw (setDraw (newCur code hc)).2).1⟩, ⟨setDraw_ok _, setDraw_ok _⟩, ?_⟩
  have w := eq_l01New code hc
  refine lim_run (E := E) rfl Try.func20 rfl (by kernel_rfl) (by kernel_rfl) ?_
  simp [Try.f20, tmpAt, w]
theorem ex_DrawPlaces (code : S) (hc : code.length ≤ 1048576) : ∃ r : List Int, (r.length = 12 ∧ ∀ x ∈ r, 0 ≤ x ∧ x < 10000) ∧ lim E 21 [.lst false 5 1 (ofBytes code)] = some (.lst true 3 1 (r.map (.int .i64)), []) := by
  refine ex_split ?_
  have w := eq_l01New code hc
  refine lim_ex (E := E) rfl Try.func21 rfl (by kernel_rfl) (by kernel_rfl) ?_
  simp [Try.f21, tmpAt, w]
  refine loop_fr [3] [] (fun m st => ∃ (i r : Nat) (xs : List Int) (c : Cur), i + m = 12 ∧ (r = 10 ∨ r = 19) ∧ (xs.length = i ∧ ∀ x ∈ xs, 0 ≤ x ∧ x < 10000) ∧ st.env 4 = .slc (r,0) [] 0 xs.length ∧ st.rs (r,0) = some ⟨false, .lst true 3 1 (xs.map (.int .i64))⟩ ∧ st.env 5 = .int .i64 i ∧ st.rs (7,0) = some ⟨true, encCur c⟩) (12) _ ?_ ?_
  · exact ⟨0, 10, [], (byte (newCur code hc)).2, by simp⟩
  rintro m0 ⟨env, rs⟩ hU0 hV0 ⟨i, r, xs, c, hi, hr, hx, e4, q, e0_5, r0_7_0⟩ ih0; simp at hU0 e0_5 r0_7_0; clear hV0
  simp at e4 q
  have hw := wrap_up (show i < 4611686018427387904 by omega)
  have hb := below_in c 10000
  generalize hq : below c 10000 = Q at *
  obtain ⟨x, c2⟩ := Q
  simp at hb
  simp [hU0, e0_5, r0_7_0]
  refine RB_dec ?_ ?_ <;> intro h
  · rcases hr with rfl | rfl
    all_goals
      simp [hU0, e0_5, r0_7_0, e4, q, hq]
      repeat (refine And.intro (by first | omega | (simp; omega)) ?_)
      refine ih0 (m0 - 1) _ (by omega) ?_ ?_ ⟨i + 1, 19, xs ++ [x], c2, by omega, by simp, ?_, ?_⟩
      · simp [hU0, e0_5, r0_7_0]
      · simp [hU0, e0_5, r0_7_0]
      · refine ⟨by simp [hx.1], fun y hy => ?_⟩
        rcases List.mem_append.1 hy with hy | hy
        · exact hx.2 y hy
        · simp at hy; subst hy; omega
      · simp [hU0, e0_5, r0_7_0, hw]
  · rcases hr with rfl | rfl
    all_goals
      simp [hU0, e0_5, r0_7_0, e4, q]
      exact ⟨xs, ⟨by omega, hx.2⟩, rfl⟩
end Go.Proofs.Ytoeadcefgpkdcaa
