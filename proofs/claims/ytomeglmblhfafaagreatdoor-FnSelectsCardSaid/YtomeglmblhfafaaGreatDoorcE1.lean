/- Small functions of the laws; whole draws. -/
import Derived.Test.YtomeglmblhfafaaGreatDoorcC4
import Derived.Test.YtomeglmblhfafaaGreatDoorcA5
set_option linter.unusedSectionVars false
set_option linter.all false
set_option linter.unusedVariables false
set_option linter.unusedSimpArgs false
set_option maxRecDepth 100000
namespace Go.Proofs.YtomeglmblhfafaaGreatDoor
open Go.Lft

theorem has_u8 : ∀ d, (Sh.int .u8).has d → ∃ a : UInt8, d = .int .u8 a.toNat ∧ True ∧ True := by
  intro d h
  cases d <;> simp only [Sh.has] at h
  obtain ⟨rfl, h⟩ := h
  rename_i n
  simp [Lit.wf, IntKind.min, IntKind.max, IntKind.bits, IntKind.signed] at h
  refine ⟨UInt8.ofNat n.toNat, ?_, trivial, trivial⟩
  have : (UInt8.ofNat n.toNat).toNat = n.toNat := by simp; omega
  rw [this]
  congr 1
  omega
theorem has_code (te : Nat) : ∀ d, (Sh.slice te 1 (.int .u8)).has d → ∃ code : S, d = .lst false te 1 (ofBytes code) := by
  intro d h
  obtain ⟨l, rfl, _, _⟩ := has_list has_u8 d h
  exact ⟨l, rfl⟩
@[simp] theorem ofBytes_len (s : S) : (ofBytes s).length = s.length := by simp [ofBytes]
@[simp] theorem eq_big (code : S) : lim E 9 [.lst false 5 1 (ofBytes code)] = some (.bool (decide (1048576 < code.length)), []) := by
  refine lim_run (E := E) rfl Tryz.func9 rfl (by kernel_rfl) (by kernel_rfl) ?_
  simp [Tryz.f9, tmpAt]
  omega
noncomputable def drawBox (code : S) (hc : code.length ≤ 1048576) : Box := (boxDraw (newCur code hc)).1
theorem eq_DrawBox (code : S) (hc : code.length ≤ 1048576) : lim E 40 [.lst false 5 1 (ofBytes code)] = some (encBox false true (drawBox code hc), []) := by
  have w := eq_l01New code hc
  refine lim_run (E := E) rfl Tryz.func40 rfl (by kernel_rfl) (by kernel_rfl) ?_
  simp [Tryz.f40, tmpAt, w]
  simp [drawBox]
noncomputable def drawMail (code : S) (hc : code.length ≤ 1048576) : S := (mailDraw (newCur code hc)).1
theorem eq_DrawMail (code : S) (hc : code.length ≤ 1048576) : lim E 24 [.lst false 5 1 (ofBytes code)] = some (.str (drawMail code hc), []) := by
  have w := eq_l01New code hc
  refine lim_run (E := E) rfl Tryz.func24 rfl (by kernel_rfl) (by kernel_rfl) ?_
  simp [Tryz.f24, tmpAt, w]
  simp [drawMail]
end Go.Proofs.YtomeglmblhfafaaGreatDoor
