/- The law FnExactShowBox, at the level of data: true for all data. -/
import Derived.Test.YtfboojamiabmcaaDoorcY4
import Derived.Test.YtfboojamiabmcaaDoorcHlp
set_option linter.unusedSectionVars false
set_option linter.all false
set_option linter.unusedVariables false
set_option linter.unusedSimpArgs false
set_option maxRecDepth 100000
namespace Go.Proofs.YtfboojamiabmcaaDoor
open Go.Lft

set_option maxHeartbeats 4000000 in
theorem law_ShowBox : ∀ xs, Sh.hasL [shBox] xs → lim E 3 xs = some (.bool true, []) := by
  intro xs h
  obtain ⟨x, s, rfl, g, h⟩ := has_cons h
  obtain rfl := has_nil h
  obtain ⟨e, rfl, hw, hr⟩ := has_Box _ g
  have w0 := eq_szBox e 1048576 hw (by omega) (by omega)
  try simp at w0
  refine lim_run (E := E) rfl Tryd.func3 rfl (by kernel_rfl) (by kernel_rfl) ?_
  simp [Tryd.f3, tmpAt, w0]
  refine RB_dec ?_ ?_ <;> intro h0
  · simp
  obtain ⟨c0, d0⟩ := cut_pos h0
  have hz : szBox e ≤ 1048576 := by omega
  have w1 := eq_toBox e hz
  try simp at w1
  have w2 := eq_ShowBox e hz
  try simp at w2
  have w3 := eq_sShowBox e hz
  try simp at w3
  have w4 := eq_eqBox e e hz
  try simp at w4
  simp [w1, w2, w3, w4, tmpAt]
  all_goals exact trOk_unord (L := [(0, 1), (0, 2)]) (by kernel_rfl) (by simp) (by simp [indepAt, indep, spares, around, aside, pre, isSlc, Tr.feels, Tr.all, moves, bare, opData, isExt, cmpOf, Op.operands, Call.operands, mentL, ment, D.noUndefL, D.noUndef, pureE])
end Go.Proofs.YtfboojamiabmcaaDoor
