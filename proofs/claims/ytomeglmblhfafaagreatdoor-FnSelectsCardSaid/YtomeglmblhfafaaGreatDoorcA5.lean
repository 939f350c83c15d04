/- SameStore: of the program and of the reference. -/
import Derived.Test.YtomeglmblhfafaaGreatDoorcA2
set_option linter.unusedSectionVars false
set_option linter.all false
set_option linter.unusedVariables false
set_option linter.unusedSimpArgs false
set_option maxRecDepth 100000
namespace Go.Proofs.YtomeglmblhfafaaGreatDoor
open Go.Lft

theorem mail_eq (x y : Mail) : (x.uid = y.uid ∧ x.flags = y.flags ∧ x.mod = y.mod ∧ x.text = y.text) ↔ x = y := by cases x; cases y; simp
theorem tomb_eq (x y : Tomb) : (x.uid = y.uid ∧ x.mod = y.mod) ↔ x = y := by cases x; cases y; simp
theorem box_eq (x y : Box) : (x.name = y.name ∧ x.valid = y.valid ∧ x.next = y.next ∧ x.mod = y.mod ∧ x.mails = y.mails ∧ x.tombs = y.tombs ∧ x.horizon = y.horizon) ↔ x = y := by cases x; cases y; simp
theorem store_eq (x y : Store) : (x.boxes = y.boxes ∧ x.valid = y.valid) ↔ x = y := by cases x; cases y; simp
end Go.Proofs.YtomeglmblhfafaaGreatDoor
