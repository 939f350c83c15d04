/- Draws of boxes. -/
import Derived.Test.YtfboojamiabmcaacP1
set_option linter.unusedSectionVars false
set_option linter.all false
set_option linter.unusedVariables false
set_option linter.unusedSimpArgs false
set_option maxRecDepth 100000
namespace Go.Proofs.Ytfboojamiabmcaa
open Go.Lft

theorem addMail_mod (b : Box) (f : Int) (t : S) : (addMail b f t).1.mod ≤ b.mod + 1 := by
  unfold addMail; split <;> simp [added] <;> omega
theorem setFlags_mod (b : Box) (s : List Range) (how bits since : Int) : (setFlags b s how bits since).1.mod ≤ b.mod + 1 := by
  unfold setFlags; split
  · simp only [flagBox, modAfter]; split <;> omega
  · simp only; omega
theorem expunge_mod (b : Box) (s : List Range) : (expunge b s).1.mod ≤ b.mod + 1 := by
  unfold expunge; split <;> simp [expBox] <;> omega
theorem forget_mod (b : Box) (u : Int) : (forget b u).mod = b.mod := by
  unfold forget; split <;> rfl
end Go.Proofs.Ytfboojamiabmcaa
