/- Sets, places drawn whole; sets compared by the laws. -/
import Derived.Test.YtfboojamiabmcaacE1
set_option linter.unusedSectionVars false
set_option linter.all false
set_option linter.unusedVariables false
set_option linter.unusedSimpArgs false
set_option maxRecDepth 100000
namespace Go.Proofs.Ytfboojamiabmcaa
open Go.Lft

theorem range_eq (x y : Range) : (x.lo = y.lo ∧ x.hi = y.hi) ↔ x = y := by cases x; cases y; simp
end Go.Proofs.Ytfboojamiabmcaa
