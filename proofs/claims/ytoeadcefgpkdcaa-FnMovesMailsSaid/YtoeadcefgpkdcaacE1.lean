/- Small functions of the laws; whole draws. -/
import Derived.Test.YtoeadcefgpkdcaacC4
import Derived.Test.YtoeadcefgpkdcaacA5
set_option linter.unusedSectionVars false
set_option linter.all false
set_option linter.unusedVariables false
set_option linter.unusedSimpArgs false
set_option maxRecDepth 100000
namespace Go.Proofs.Ytoeadcefgpkdcaa
open Go.Lft

theorem has_u8 : ∀ d, (Sh.int .u8).has d → ∃ a : UInt8, d = .int .u8 a.toNat ∧ True ∧ True := by
  intro d h
  cases d <;> simp only [Sh.has] at h
  obtain ⟨rfl, h⟩ := h
  rename_i n
  simp [Lit.wf, IntKind.min, IntKind.max, IntKind.bits, IntKind.signed] at h
  refine ⟨UInt8.ofNat n.toNat, ?_, trivial, trivial⟩
  have : (UInt8.ofNat n.toNat).toNat = n.toNat := by simp; omega
  rw [this]
  congr 1
  omega
theorem has_code (te : Nat) : ∀ d, (Sh.slice te 1 (.int .u8)).has d → ∃ code : S, d = .lst false te 1 (ofBytes code) := by
  intro d h
  obtain ⟨l, rfl, _, _⟩ := has_list has_u8 d h
  exact ⟨l, rfl⟩
@[simp] theorem ofBytes_len (s : S) : (ofBytes s).length = s.length := by simp [ofBytes]
@[simp] theorem eq_big (code : S) : lim E 12 [.lst false 5 1 (ofBytes code)] = some (.bool (decide (1048576 < code.length)), []) := by
  refine lim_run (E := E) rfl Try.func12 rfl (by kernel_rfl) (by kernel_rfl) ?_
  simp [Try.f12, tmpAt]
  omega
noncomputable def drawBox (code : S) (hc : code.length ≤ 1048576) : Box := (boxDraw (newCur code hc)).1
theorem eq_DrawBox (code : S) (hc : code.length ≤ 1048576) : lim E 13 [.lst false 5 1 (ofBytes code)] = some (encBox false true (drawBox code hc), []) := by
  have w := eq_l01New code hc
  refine lim_run (E := E) rfl Try.func13 rfl (by kernel_rfl) (by kernel_rfl) ?_
  simp [Try.f13, tmpAt, w]
  simp [drawBox]
noncomputable def drawMail (code : S) (hc : code.length ≤ 1048576) : S := (mailDraw (newCur code hc)).1
theorem eq_DrawMail (code : S) (hc : code.length ≤ 1048576) : lim E 14 [.lst false 5 1 (ofBytes code)] = some (.str (drawMail code hc), []) := by
  have w := eq_l01New code hc
  refine lim_run (E := E) rfl Try.func14 rfl (by kernel_rfl) (by kernel_rfl) ?_
  simp [Try.f14, tmpAt, w]
  simp [drawMail]
theorem eq_lsameBox (a b : Box) (ha : szBox a ≤ 16777200) : lim E 17 [encBox false false a, encBox false false b] = some (.bool (decide (a = b)), []) := by
  have w := eq_sSameStore ⟨[a], 0⟩ ⟨[b], 0⟩ (by simp [szStore, tot]; omega)
  simp at w
  refine lim_run (E := E) rfl Try.func17 rfl (by kernel_rfl) (by kernel_rfl) ?_
  simp [Try.f17, tmpAt, w]
theorem eq_sameMails (xs ys : List Mail) (h1 : xs.length ≤ 16777216) : lim E 19 [.lst false 37 4 (xs.map encMail), .lst false 37 4 (ys.map encMail)] = some (.bool (decide (xs = ys)), []) := by
  refine lim_run (E := E) rfl Try.func19 rfl (by kernel_rfl) (by kernel_rfl) ?_
  simp [Try.f19, tmpAt]
  refine RB_ndec ?_ ?_ <;> intro hl
  · simp
    intro hc; subst hc; exact hl rfl
  · simp
    have hl : xs.length = ys.length := by omega
    refine loop_fr [0, 1] [] (fun m st => ∃ (i : Nat), i + m = xs.length ∧ xs.take i = ys.take i ∧ st.env 5 = .int .i64 i) (xs.length) _ ?_ ?_
    · exact ⟨0, by simp⟩
    rintro m0 ⟨env, rs⟩ hU0 hV0 ⟨i, hi, hs, e0_5⟩ ih0; simp at hU0 e0_5; clear hV0
    have hw := wrap_up (show i < 4611686018427387904 by omega)
    simp [hU0, e0_5]
    refine RB_dec ?_ ?_ <;> intro h
    · have h' : i < ys.length := by omega
      simp [hU0, e0_5, h, h']
      refine RB_split ?_ ?_ <;> intro h2 <;> simp [hU0, e0_5]
      · intro hc; subst hc; simp at h2
      · refine ih0 (m0 - 1) _ (by omega) ?_ ?_ ⟨i + 1, by omega, take_eq hs h h' ((mail_eq _ _).1 (by simpa [and_assoc] using h2)), ?_⟩
        · simp [hU0, e0_5]
        · simp [hU0, e0_5]
        simp [hU0, e0_5, hw]
    · simp [hU0, e0_5, h]
      exact take_all hs h hl
end Go.Proofs.Ytoeadcefgpkdcaa
