/- The mirror: the program's TakeLine; sameView, sameLines of a thing and itself. -/
import Derived.Test.YtfboojamiabmcaacE2
set_option linter.unusedSectionVars false
set_option linter.all false
set_option linter.unusedVariables false
set_option linter.unusedSimpArgs false
set_option maxRecDepth 100000
namespace Go.Proofs.Ytfboojamiabmcaa
open Go.Lft

theorem eq_copySeens (l : List Seen) (h : l.length ≤ 16777216) : lim E 74 [.lst false 103 3 (l.map encSeen)] = some (.lst true 103 3 (l.map encSeen), []) := by
  have h1 : l.length * 24 ≤ 140737488351232 := by omega
  refine lim_run (E := E) rfl Try.func74 rfl (by kernel_rfl) (by kernel_rfl) ?_
  simp [Try.f74, tmpAt, h1]
def takeLine (l : List Seen) (x : Line) : List Seen :=
  if x.kind = 1 ∧ within x.num 0 30 = true then (l ++ List.replicate (x.num.toNat - l.length) (⟨0, 0, 0⟩ : Seen)).take x.num.toNat
  else if x.kind = 2 ∧ within x.num 1 l.length = true then l.take (x.num.toNat - 1) ++ l.drop x.num.toNat
  else if x.kind = 3 ∧ within x.num 1 l.length = true then l.set (x.num.toNat - 1) ⟨x.uid, x.flags, x.mod⟩
  else if x.kind = 9 then [] else l
end Go.Proofs.Ytfboojamiabmcaa
