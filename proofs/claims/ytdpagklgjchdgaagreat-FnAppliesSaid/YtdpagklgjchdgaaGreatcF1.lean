/- Views: their Uids; whether they are right. -/
import Derived.Test.YtdpagklgjchdgaaGreatcE1
import Derived.Test.YtdpagklgjchdgaaGreatcD14
set_option linter.unusedSectionVars false
set_option linter.all false
set_option linter.unusedVariables false
set_option linter.unusedSimpArgs false
set_option maxRecDepth 100000
namespace Go.Proofs.YtdpagklgjchdgaaGreat
open Go.Lft

theorem range_eq (x y : Range) : (x.lo = y.lo ∧ x.hi = y.hi) ↔ x = y := by cases x; cases y; simp
end Go.Proofs.YtdpagklgjchdgaaGreat

set_option linter.unusedVariables false
set_option linter.unusedSimpArgs false
set_option maxRecDepth 100000
namespace Go.Proofs.YtdpagklgjchdgaaGreat
open Go.Lft

def uidsL (b : Box) : List Int := b.mails.map (·.uid)
@[simp] theorem uidsL_len (b : Box) : (uidsL b).length = b.mails.length := by simp [uidsL]
theorem take_map_next {α β : Type} (f : α → β) (xs : List α) (i : Nat) (h : i < xs.length) : (xs.take (i + 1)).map f = (xs.take i).map f ++ [f xs[i]] := by
  rw [List.take_succ_eq_append_getElem h, List.map_append]; rfl
/-! ### Right views -/
def uidGood (q : Option Int) (u : Int) : Bool := within u 1 9999 && (match q with | none => true | some q => decide (q < u))
def UidsOK (us : List Int) : Prop := upto us (fun k u => uidGood (prevOf us k) u) us.length
noncomputable instance (us : List Int) : Decidable (UidsOK us) := Classical.propDecidable _
end Go.Proofs.YtdpagklgjchdgaaGreat
