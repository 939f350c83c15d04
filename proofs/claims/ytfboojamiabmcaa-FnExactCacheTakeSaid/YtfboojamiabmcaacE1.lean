/- Small functions of the laws; whole draws. -/
import Derived.Test.YtfboojamiabmcaacC4
import Derived.Test.YtfboojamiabmcaacA5
set_option linter.unusedSectionVars false
set_option linter.all false
set_option linter.unusedVariables false
set_option linter.unusedSimpArgs false
set_option maxRecDepth 100000
namespace Go.Proofs.Ytfboojamiabmcaa
open Go.Lft

theorem has_u8 : ∀ d, (Sh.int .u8).has d → ∃ a : UInt8, d = .int .u8 a.toNat ∧ True ∧ True := by
  intro d h
  cases d <;> simp only [Sh.has] at h
  obtain ⟨rfl, h⟩ := h
  rename_i n
  simp [Lit.wf, IntKind.min, IntKind.max, IntKind.bits, IntKind.signed] at h
  refine ⟨UInt8.ofNat n.toNat, ?_, trivial, trivial⟩
  have : (UInt8.ofNat n.toNat).toNat = n.toNat := by simp; omega
  rw [this]
  congr 1
  omega
theorem has_code (te : Nat) : ∀ d, (Sh.slice te 1 (.int .u8)).has d → ∃ code : S, d = .lst false te 1 (ofBytes code) := by
  intro d h
  obtain ⟨l, rfl, _, _⟩ := has_list has_u8 d h
  exact ⟨l, rfl⟩
@[simp] theorem ofBytes_len (s : S) : (ofBytes s).length = s.length := by simp [ofBytes]
end Go.Proofs.Ytfboojamiabmcaa
