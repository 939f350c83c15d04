/- Flags, numbers, names of boxes, CacheOk: of the program and of the reference. -/
import Derived.Test.YtoeadcefgpkdcaaDoorcA1
set_option linter.unusedSectionVars false
set_option linter.all false
set_option linter.unusedVariables false
set_option linter.unusedSimpArgs false
set_option maxRecDepth 100000
namespace Go.Proofs.YtoeadcefgpkdcaaDoor
open Go.Lft

/-- The one ahead. -/
def prevOf {α : Type} (xs : List α) (i : Nat) : Option α := if i = 0 then none else xs[i - 1]?

def lower (b : UInt8) : Bool := decide (97 ≤ b.toNat) && decide (b.toNat ≤ 122)
def boxName (s : S) : Bool := s.all lower && within s.length 1 8
theorem wrap_byte (b : UInt8) : IntKind.i64.wrap (b.toNat : Int) = b.toNat := by
  have := b.toNat_lt
  exact wrap_in (by omega) (by omega)
theorem lower_within (b : UInt8) : within (b.toNat : Int) 97 122 = lower b := by
  unfold within lower
  congr 1 <;> simp <;> omega
end Go.Proofs.YtoeadcefgpkdcaaDoor
