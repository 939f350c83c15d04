/- Small functions of the laws: Uids, in, all. -/
import Derived.Test.YtoeadcefgpkdcaaGreatcE2
import Derived.Test.YtoeadcefgpkdcaaGreatcF1
set_option linter.unusedSectionVars false
set_option linter.all false
set_option linter.unusedVariables false
set_option linter.unusedSimpArgs false
set_option maxRecDepth 100000
namespace Go.Proofs.YtoeadcefgpkdcaaGreat
open Go.Lft

/-! ### How many -/
def sumS : List Range → Int
  | [] => 0
  | r :: l => r.hi - r.lo + 1 + sumS l
def sizeS (s : List Range) : Int := if setOk s = true then sumS s else 0
theorem sumS_snoc : ∀ (l : List Range) (r : Range), sumS (l ++ [r]) = sumS l + (r.hi - r.lo + 1)
  | [], r => by simp [sumS]
  | x :: l, r => by simp only [List.cons_append, sumS, sumS_snoc l r]; omega
theorem sumS_in : ∀ {s : List Range}, (∀ r ∈ s, 1 ≤ r.lo ∧ r.lo ≤ r.hi ∧ r.hi ≤ 9999) → 0 ≤ sumS s ∧ sumS s ≤ 9999 * s.length
  | [], _ => by simp [sumS]
  | r :: s, h => by
    have h1 := h r (by simp)
    have h2 := sumS_in (s := s) fun x hx => h x (by simp [hx])
    simp only [sumS, List.length_cons]
    omega
end Go.Proofs.YtoeadcefgpkdcaaGreat
