/- The law FnExactTold, at the level of data: true for all data. -/
import Derived.Test.YtongomiihjlbcaaGreatcO3
set_option linter.unusedSectionVars false
set_option linter.all false
set_option linter.unusedVariables false
set_option linter.unusedSimpArgs false
set_option maxRecDepth 100000
namespace Go.Proofs.YtongomiihjlbcaaGreat
open Go.Lft

theorem law_Told : ∀ xs, Sh.hasL [shWorld] xs → lim E 3 xs = some (.bool true, []) := by
  intro xs h
  obtain ⟨x, s, rfl, g, h⟩ := has_cons h
  obtain rfl := has_nil h
  obtain ⟨e, rfl, hw, hr⟩ := has_World _ g
  have w0 := eq_szWorld e 1048576 hw (by omega) (by omega)
  try simp at w0
  refine lim_run (E := E) rfl Tryz.func3 rfl (by kernel_rfl) (by kernel_rfl) ?_
  simp [Tryz.f3, tmpAt, w0]
  refine RB_dec ?_ ?_ <;> intro h0
  · simp
  obtain ⟨c0, d0⟩ := cut_pos h0
  have hz : szWorld e ≤ 1048576 := by omega
  have w1 := eq_toWorld e hz
  try simp at w1
  have w2 := eq_Told e hz
  try simp at w2
  have w3 := eq_sTold e hz
  try simp at w3
  have w4 := eq_eqWorld e e hz
  try simp at w4
  simp [w1, w2, w3, w4]
  exact trOk_unord (L := [(0, 1), (0, 2)]) (by kernel_rfl) (by simp) (by simp [indepAt, indep, spares, around, pre, isSlc, Tr.feels, Tr.all, moves, bare, opData, isExt, cmpOf, Op.operands, Call.operands, mentL, ment, D.noUndefL, D.noUndef, pureE])
end Go.Proofs.YtongomiihjlbcaaGreat
