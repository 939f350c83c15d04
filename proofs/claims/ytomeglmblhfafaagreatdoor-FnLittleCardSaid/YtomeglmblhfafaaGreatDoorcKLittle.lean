/- FnLittle: closed facts of its card. -/
import Derived.Test.YtomeglmblhfafaaGreatDoorRows
import Derived.ProofKit
import Derived.OpenShut
import Derived.LaidMore
import Derived.Lay
import Derived.SevenTiedAt
import Derived.Stop.Joined
import Derived.KernelRfl
set_option linter.unusedSectionVars false
set_option linter.all false
set_option linter.unusedVariables false
set_option maxRecDepth 100000
namespace Go.Proofs.YtomeglmblhfafaaGreatDoor
open Go

theorem card_main : Tryz.pinned.checked.prog.mainIs = some (true, ("9443118240005946e34ffdd6b37a9747578a0de17fe150a9cbfa182848bed480" : String).toList) := by kernel_rfl
theorem card_goes : false = Rows.fnLittleRow.goesBy Tryz.pinned.checked.prog := by kernel_rfl
theorem card_looks : true = Tryz.pinned.checked.prog.looks [] := by kernel_rfl
end Go.Proofs.YtomeglmblhfafaaGreatDoor
