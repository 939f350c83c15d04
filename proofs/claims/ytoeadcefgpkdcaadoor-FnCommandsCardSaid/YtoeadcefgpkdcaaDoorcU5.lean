/- Commands: what the laws draw and ask: bytes, places, texts that are the same. -/
import Derived.Test.YtoeadcefgpkdcaaDoorcC1
import Derived.Test.YtoeadcefgpkdcaaDoorcU4
set_option linter.unusedSectionVars false
set_option linter.all false
set_option linter.unusedVariables false
set_option linter.unusedSimpArgs false
set_option maxRecDepth 100000
namespace Go.Proofs.YtoeadcefgpkdcaaDoor
open Go.Lft

theorem has_u8 : ∀ d, (Sh.int .u8).has d → ∃ a : UInt8, d = .int .u8 a.toNat ∧ True ∧ True := by
  intro d h
  cases d <;> simp only [Sh.has] at h
  obtain ⟨rfl, h⟩ := h
  rename_i n
  simp [Lit.wf, IntKind.min, IntKind.max, IntKind.bits, IntKind.signed] at h
  refine ⟨UInt8.ofNat n.toNat, ?_, trivial, trivial⟩
  have : (UInt8.ofNat n.toNat).toNat = n.toNat := by simp; omega
  rw [this]
  congr 1
  omega
theorem has_code (te : Nat) : ∀ d, (Sh.slice te 1 (.int .u8)).has d → ∃ code : S, d = .lst false te 1 (ofBytes code) := by
  intro d h
  obtain ⟨l, rfl, _, _⟩ := has_list has_u8 d h
  exact ⟨l, rfl⟩
@[simp] theorem ofBytes_len (s : S) : (ofBytes s).length = s.length := by simp [ofBytes]
@[simp] theorem eq_big (code : S) : lim E 5 [.lst false 5 1 (ofBytes code)] = some (.bool (decide (1048576 < code.length)), []) := by
  refine lim_run (E := E) rfl Tryd.func5 rfl (by kernel_rfl) (by kernel_rfl) ?_
  simp [Tryd.f5, tmpAt]
  omega
theorem ex_DrawPlaces (code : S) (hc : code.length ≤ 1048576) : ∃ r : List Int, (r.length = 12 ∧ ∀ x ∈ r, 0 ≤ x ∧ x < 10000) ∧ lim E 6 [.lst false 5 1 (ofBytes code)] = some (.lst true 3 1 (r.map (.int .i64)), []) := by
  refine ex_split ?_
  have w := eq_l01New code hc
  refine lim_ex (E := E) rfl Tryd.func6 rfl (by kernel_rfl) (by kernel_rfl) ?_
  simp [Tryd.f6, tmpAt, w]
  refine loop_fr [3] [] (fun m st => ∃ (i r : Nat) (xs : List Int) (c : Cur), i + m = 12 ∧ (r = 10 ∨ r = 19) ∧ (xs.length = i ∧ ∀ x ∈ xs, 0 ≤ x ∧ x < 10000) ∧ st.env 4 = .slc (r,0) [] 0 xs.length ∧ st.rs (r,0) = some ⟨false, .lst true 3 1 (xs.map (.int .i64))⟩ ∧ st.env 5 = .int .i64 i ∧ st.rs (7,0) = some ⟨true, encCur c⟩) (12) _ ?_ ?_
  · exact ⟨0, 10, [], (byte (newCur code hc)).2, by simp⟩
  rintro m0 ⟨env, rs⟩ hU0 hV0 ⟨i, r, xs, c, hi, hr, hx, e4, q, e0_5, r0_7_0⟩ ih0; simp at hU0 e0_5 r0_7_0; clear hV0
  simp at e4 q
  have hw := wrap_up (show i < 4611686018427387904 by omega)
  have hb := below_in c 10000
  generalize hq : below c 10000 = Q at *
  obtain ⟨x, c2⟩ := Q
  simp at hb
  simp [hU0, e0_5, r0_7_0]
  refine RB_dec ?_ ?_ <;> intro h
  · rcases hr with rfl | rfl
    all_goals
      simp [hU0, e0_5, r0_7_0, e4, q, hq]
      repeat (refine And.intro (by first | omega | (simp; omega)) ?_)
      refine ih0 (m0 - 1) _ (by omega) ?_ ?_ ⟨i + 1, 19, xs ++ [x], c2, by omega, by simp, ?_, ?_⟩
      · simp [hU0, e0_5, r0_7_0]
      · simp [hU0, e0_5, r0_7_0]
      · refine ⟨by simp [hx.1], fun y hy => ?_⟩
        rcases List.mem_append.1 hy with hy | hy
        · exact hx.2 y hy
        · simp at hy; subst hy; omega
      · simp [hU0, e0_5, r0_7_0, hw]
  · rcases hr with rfl | rfl
    all_goals
      simp [hU0, e0_5, r0_7_0, e4, q]
      exact ⟨xs, ⟨by omega, hx.2⟩, rfl⟩
theorem eq_sameTexts (xs ys : List S) (h1 : xs.length ≤ 1048576) : lim E 9 [.lst false 9 1 (xs.map .str), .lst false 9 1 (ys.map .str)] = some (.bool (decide (xs = ys)), []) := by
  refine lim_run (E := E) rfl Tryd.func9 rfl (by kernel_rfl) (by kernel_rfl) ?_
  simp [Tryd.f9, tmpAt]
  refine RB_ndec ?_ ?_ <;> intro hl
  · simp
    intro hc; subst hc; exact hl rfl
  simp
  have hl : xs.length = ys.length := by omega
  refine loop_fr [0, 1] [] (fun m st => ∃ (i : Nat), i + m = xs.length ∧ xs.take i = ys.take i ∧ st.env 5 = .int .i64 i) (xs.length) _ ?_ ?_
  · exact ⟨0, by simp⟩
  rintro m0 ⟨env, rs⟩ hU0 hV0 ⟨i, hi, hs, e0_5⟩ ih0; simp at hU0 e0_5; clear hV0
  have hw := wrap_up (show i < 4611686018427387904 by omega)
  simp [hU0, e0_5]
  refine RB_dec ?_ ?_ <;> intro h
  · have h' : i < ys.length := by omega
    simp [hU0, e0_5, h, h']
    refine RB_ndec ?_ ?_ <;> intro h2
    · simp
      intro hc; subst hc; exact h2 rfl
    · simp [hU0, e0_5]
      refine ih0 (m0 - 1) _ (by omega) ?_ ?_ ⟨i + 1, by omega, take_eq hs h h' h2, ?_⟩
      · simp [hU0, e0_5]
      · simp [hU0, e0_5]
      simp [hU0, e0_5, hw]
  · simp [hU0, e0_5, h]
    exact take_all hs h hl
end Go.Proofs.YtoeadcefgpkdcaaDoor
