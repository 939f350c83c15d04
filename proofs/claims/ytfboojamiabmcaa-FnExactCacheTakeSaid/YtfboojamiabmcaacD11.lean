/- Boxes: the reference's ForgetTombs. -/
import Derived.Test.YtfboojamiabmcaacD10
set_option linter.unusedSectionVars false
set_option linter.all false
set_option linter.unusedVariables false
set_option linter.unusedSimpArgs false
set_option maxRecDepth 100000
namespace Go.Proofs.Ytfboojamiabmcaa
open Go.Lft

def forgot (b : Box) (upto : Int) : Box := ⟨b.name, b.valid, b.next, b.mod, b.mails, b.tombs.filter (fun t => decide (upto < t.mod)), if b.horizon < upto then upto else b.horizon⟩
noncomputable def forget (b : Box) (upto : Int) : Box := if boxOk b = true ∧ within upto 0 b.mod = true then forgot b upto else b
end Go.Proofs.Ytfboojamiabmcaa
