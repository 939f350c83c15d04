/- The laws' own helpers, for all data: what is left of a size, copies, equality. (By program: gen_dat.py.) -/
import Derived.Test.YtomeglmblhfafaaGreatDoorcDat
set_option linter.unusedSectionVars false
set_option linter.all false
set_option linter.unusedVariables false
set_option linter.unusedSimpArgs false
set_option maxRecDepth 100000
namespace Go.Proofs.YtomeglmblhfafaaGreatDoor
open Go.Lft

end Go.Proofs.YtomeglmblhfafaaGreatDoor
