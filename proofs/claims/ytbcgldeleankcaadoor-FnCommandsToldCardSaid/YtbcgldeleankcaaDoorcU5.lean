/- Commands: what the laws draw and ask: bytes, places, texts that are the same. -/
import Derived.Test.YtbcgldeleankcaaDoorcC1
import Derived.Test.YtbcgldeleankcaaDoorcU4
set_option linter.unusedSectionVars false
set_option linter.all false
set_option linter.unusedVariables false
set_option linter.unusedSimpArgs false
set_option maxRecDepth 100000
namespace Go.Proofs.YtbcgldeleankcaaDoor
open Go.Lft

theorem has_u8 : ∀ d, (Sh.int .u8).has d → ∃ a : UInt8, d = .int .u8 a.toNat ∧ True ∧ True := by
  intro d h
  cases d <;> simp only [Sh.has] at h
  obtain ⟨rfl, h⟩ := h
  rename_i n
  simp [Lit.wf, IntKind.min, IntKind.max, IntKind.bits, IntKind.signed] at h
  refine ⟨UInt8.ofNat n.toNat, ?_, trivial, trivial⟩
  have : (UInt8.ofNat n.toNat).toNat = n.toNat := by simp; omega
  rw [this]
  congr 1
  omega
theorem has_code (te : Nat) : ∀ d, (Sh.slice te 1 (.int .u8)).has d → ∃ code : S, d = .lst false te 1 (ofBytes code) := by
  intro d h
  obtain ⟨l, rfl, _, _⟩ := has_list has_u8 d h
  exact ⟨l, rfl⟩
@[simp] theorem ofBytes_len (s : S) : (ofBytes s).length = s.length := by simp [ofBytes]
@[simp] theorem eq_big (code : S) : lim E 6 [.lst false 5 1 (ofBytes code)] = some (.bool (decide (1048576 < code.length)), []) := by
  refine lim_run (E := E) rfl Tryd.func6 rfl (by kernel_rfl) (by kernel_rfl) ?_
  simp [Tryd.f6, tmpAt]
  omega
theorem eq_sameTexts (xs ys : List S) (h1 : xs.length ≤ 1048576) : lim E 13 [.lst false 9 1 (xs.map .str), .lst false 9 1 (ys.map .str)] = some (.bool (decide (xs = ys)), []) := by
  refine lim_run (E := E) rfl Tryd.func13 rfl (by kernel_rfl) (by kernel_rfl) ?_
  simp [Tryd.f13, tmpAt]
  refine RB_ndec ?_ ?_ <;> intro hl
  · simp
    intro hc; subst hc; exact hl rfl
  simp
  have hl : xs.length = ys.length := by omega
  refine loop_fr [0, 1] [] (fun m st => ∃ (i : Nat), i + m = xs.length ∧ xs.take i = ys.take i ∧ st.env 5 = .int .i64 i) (xs.length) _ ?_ ?_
  · exact ⟨0, by simp⟩
  rintro m0 ⟨env, rs⟩ hU0 hV0 ⟨i, hi, hs, e0_5⟩ ih0; simp at hU0 e0_5; clear hV0
  have hw := wrap_up (show i < 4611686018427387904 by omega)
  simp [hU0, e0_5]
  refine RB_dec ?_ ?_ <;> intro h
  · have h' : i < ys.length := by omega
    simp [hU0, e0_5, h, h']
    refine RB_ndec ?_ ?_ <;> intro h2
    · simp
      intro hc; subst hc; exact h2 rfl
    · simp [hU0, e0_5]
      refine ih0 (m0 - 1) _ (by omega) ?_ ?_ ⟨i + 1, by omega, take_eq hs h h' h2, ?_⟩
      · simp [hU0, e0_5]
      · simp [hU0, e0_5]
      simp [hU0, e0_5, hw]
  · simp [hU0, e0_5, h]
    exact take_all hs h hl
end Go.Proofs.YtbcgldeleankcaaDoor
