/- FnLittle: closed facts of its row, one by one (all at once they take too much memory). -/
import Derived.Test.YtomeglmblhfafaaGreatDoorRows
import Derived.ProofKit
import Derived.JoinedOf
import Derived.KernelRfl
set_option linter.unusedSectionVars false
set_option linter.all false
set_option linter.unusedVariables false
set_option maxRecDepth 100000
namespace Go.Proofs.YtomeglmblhfafaaGreatDoor
open Go

theorem and2 {a b : Bool} (ha : a = true) (hb : b = true) : (a && b) = true := by rw [ha, hb]; rfl
set_option maxHeartbeats 8000000 in
theorem joined : joinedFacts Tryz.prog 4 Tryz.f4 Rows.fnLittleSpec Rows.fnLittleRow = true := by
  unfold joinedFacts
  with_reducible repeat' refine and2 ?_ ?_
  all_goals as_aux_lemma => kernel_rfl
end Go.Proofs.YtomeglmblhfafaaGreatDoor
