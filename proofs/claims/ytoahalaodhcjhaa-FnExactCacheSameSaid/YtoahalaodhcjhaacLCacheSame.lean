/- The law FnExactCacheSame, at the level of data: true for all data. -/
import Derived.Test.YtoahalaodhcjhaacA4
set_option linter.unusedSectionVars false
set_option linter.all false
set_option linter.unusedVariables false
set_option linter.unusedSimpArgs false
set_option maxRecDepth 100000
namespace Go.Proofs.Ytoahalaodhcjhaa
open Go.Lft

theorem extOk : ExtOk E := fun f g args res h => by simp [E, extT] at h
theorem law_CacheSame : ∀ xs, Sh.hasL [shCache, shBox] xs → lim E 5 xs = some (.bool true, []) := by
  intro xs h
  obtain ⟨x, s, rfl, g, h⟩ := has_cons h
  obtain ⟨y, s, rfl, g', h⟩ := has_cons h
  obtain rfl := has_nil h
  obtain ⟨e, rfl, hw, hr⟩ := has_Cache _ g
  obtain ⟨f, rfl, hw', hr'⟩ := has_Box _ g'
  have w0 := eq_szCache e 1048576 hw (by omega) (by omega)
  try simp at w0
  refine lim_run (E := E) rfl Try.func5 rfl (by kernel_rfl) (by kernel_rfl) ?_
  simp [Try.f5, tmpAt, w0]
  refine RB_dec ?_ ?_ <;> intro h0
  · simp
  obtain ⟨c0, d0⟩ := cut_pos h0
  have v0 := eq_szBox f (1048576 - szCache e) hw' (by omega) (by omega)
  try simp at v0
  simp [c0, v0]
  refine RB_dec ?_ ?_ <;> intro h1
  · simp
  obtain ⟨c1, d1⟩ := cut_pos h1
  have hz : szCache e ≤ 1048576 := by omega
  have hz' : szBox f ≤ 1048576 := by omega
  have w1 := eq_toCache e hz
  try simp at w1
  have v1 := eq_toBox f hz'
  try simp at v1
  have w2 := eq_CacheSame e f hz hz'
  try simp at w2
  have w3 := eq_sCacheSame e f hz hz'
  try simp at w3
  have w4 := eq_eqCache e e hz
  try simp at w4
  have v4 := eq_eqBox f f hz'
  try simp at v4
  simp [w1, w2, w3, w4, v1, v4]
  refine ⟨trOk_unord (L := [(0, 2), (1, 2)]) (by kernel_rfl) (by simp) (by simp [indepAt, indep, spares, Tr.feels, Tr.all, moves, bare, opData, Op.operands, mentL, ment, D.noUndefL, D.noUndef, pureE]), trOk_unord (L := [(0, 1), (0, 2)]) (by kernel_rfl) (by simp) (by simp [indepAt, indep, spares, Tr.feels, Tr.all, moves, bare, opData, Op.operands, mentL, ment, D.noUndefL, D.noUndef, pureE]), trOk_unord (L := [(0, 1), (0, 2)]) (by kernel_rfl) (by simp) (by simp [indepAt, indep, spares, Tr.feels, Tr.all, moves, bare, opData, Op.operands, mentL, ment, D.noUndefL, D.noUndef, pureE])⟩
end Go.Proofs.Ytoahalaodhcjhaa
