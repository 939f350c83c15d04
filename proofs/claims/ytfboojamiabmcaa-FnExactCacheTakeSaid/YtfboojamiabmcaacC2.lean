/- Draws of mails, of sets, of boxes. -/
import Derived.Test.YtfboojamiabmcaacC1
import Derived.Test.YtfboojamiabmcaacD12
set_option linter.unusedSectionVars false
set_option linter.all false
set_option linter.unusedVariables false
set_option linter.unusedSimpArgs false
set_option maxRecDepth 100000
namespace Go.Proofs.Ytfboojamiabmcaa
open Go.Lft

@[simp] theorem strMax_def : strMax = 4611686018427387904 := rfl
theorem setAdd_ok {s : List Range} {lo hi : Int} (h : setOk s = true) : setOk (setAdd s lo hi).1 = true := by
  unfold setAdd
  split
  · split
    · assumption
    · exact h
  · exact h
theorem setOk_40 {s : List Range} (h : setOk s = true) : s.length ≤ 40 := by simp [setOk] at h; omega
end Go.Proofs.Ytfboojamiabmcaa
