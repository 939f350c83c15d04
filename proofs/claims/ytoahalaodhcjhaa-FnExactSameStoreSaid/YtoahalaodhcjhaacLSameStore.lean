/- The law FnExactSameStore, at the level of data: true for all data. -/
import Derived.Test.YtoahalaodhcjhaacA5
set_option linter.unusedSectionVars false
set_option linter.all false
set_option linter.unusedVariables false
set_option linter.unusedSimpArgs false
set_option maxRecDepth 100000
namespace Go.Proofs.Ytoahalaodhcjhaa
open Go.Lft

theorem extOk : ExtOk E := fun f g args res h => by simp [E, extT] at h
theorem law_SameStore : ∀ xs, Sh.hasL [shStore, shStore] xs → lim E 6 xs = some (.bool true, []) := by
  intro xs h
  obtain ⟨x, s, rfl, g, h⟩ := has_cons h
  obtain ⟨y, s, rfl, g', h⟩ := has_cons h
  obtain rfl := has_nil h
  obtain ⟨e, rfl, hw, hr⟩ := has_Store _ g
  obtain ⟨f, rfl, hw', hr'⟩ := has_Store _ g'
  have w0 := eq_szStore e 1048576 hw (by omega) (by omega)
  try simp at w0
  refine lim_run (E := E) rfl Try.func6 rfl (by kernel_rfl) (by kernel_rfl) ?_
  simp [Try.f6, tmpAt, w0]
  refine RB_dec ?_ ?_ <;> intro h0
  · simp
  obtain ⟨c0, d0⟩ := cut_pos h0
  have v0 := eq_szStore f (1048576 - szStore e) hw' (by omega) (by omega)
  try simp at v0
  simp [c0, v0]
  refine RB_dec ?_ ?_ <;> intro h1
  · simp
  obtain ⟨c1, d1⟩ := cut_pos h1
  have hz : szStore e ≤ 1048576 := by omega
  have hz' : szStore f ≤ 1048576 := by omega
  have w1 := eq_toStore e hz
  try simp at w1
  have v1 := eq_toStore f hz'
  try simp at v1
  have w2 := eq_SameStore e f hz
  try simp at w2
  have w3 := eq_sSameStore e f hz
  try simp at w3
  have w4 := eq_eqStore e e hz
  try simp at w4
  have v4 := eq_eqStore f f hz'
  try simp at v4
  simp [w1, w2, w3, w4, v1, v4]
  refine ⟨trOk_unord (L := [(0, 2), (1, 2)]) (by kernel_rfl) (by simp) (by simp [indepAt, indep, spares, Tr.feels, Tr.all, moves, bare, opData, Op.operands, mentL, ment, D.noUndefL, D.noUndef, pureE]), trOk_unord (L := [(0, 1), (0, 2)]) (by kernel_rfl) (by simp) (by simp [indepAt, indep, spares, Tr.feels, Tr.all, moves, bare, opData, Op.operands, mentL, ment, D.noUndefL, D.noUndef, pureE]), trOk_unord (L := [(0, 1), (0, 2)]) (by kernel_rfl) (by simp) (by simp [indepAt, indep, spares, Tr.feels, Tr.all, moves, bare, opData, Op.operands, mentL, ment, D.noUndefL, D.noUndef, pureE])⟩
end Go.Proofs.Ytoahalaodhcjhaa
