/- The law FnExactCacheWords, at the level of data: true for all data. -/
import Derived.Test.YtbcgldeleankcaaDoorcY2
import Derived.Test.YtbcgldeleankcaaDoorcMC
set_option linter.unusedSectionVars false
set_option linter.all false
set_option linter.unusedVariables false
set_option linter.unusedSimpArgs false
set_option maxRecDepth 100000
namespace Go.Proofs.YtbcgldeleankcaaDoor
open Go.Lft

set_option maxHeartbeats 4000000 in
theorem law_CacheWords : ∀ xs, Sh.hasL [shCache] xs → lim E 5 xs = some (.bool true, []) := by
  intro xs h
  obtain ⟨x, s, rfl, g, h⟩ := has_cons h
  obtain rfl := has_nil h
  obtain ⟨e, rfl, hw, hr⟩ := has_Cache _ g
  have w0 := eq_szCache e 1048576 hw (by omega) (by omega)
  try simp at w0
  refine lim_run (E := E) rfl Tryd.func5 rfl (by kernel_rfl) (by kernel_rfl) ?_
  simp [Tryd.f5, tmpAt, w0]
  refine RB_dec ?_ ?_ <;> intro h0
  · simp
  obtain ⟨c0, d0⟩ := cut_pos h0
  have hz : szCache e ≤ 1048576 := by omega
  have hn : e.seens.length ≤ 1048576 := by have : szCache e = e.box.length + e.seens.length := rfl; omega
  have w1 := eq_toCache e hz
  try simp at w1
  have w2 := eq_CacheWords e hz
  try simp at w2
  have w3 := eq_sCacheWords e hz
  try simp at w3
  have w4 := eq_eqCache e e hz
  try simp at w4
  have hl := cacheW_len e
  have w6 := eq_markCache e 1 (by omega) hn
  try simp at w6
  generalize cacheW e = ws at *
  have w5 := eq_eqStringS' ws ws (by omega)
  try simp at w5
  have w7 := eq_markStringS ws 1 (by omega) (by omega) (by omega)
  try simp at w7
  have w8 := eq_heldStringS ws.length 1 false (by omega) (by omega) (by omega)
  try simp at w8
  have hk : List.take ws.length ((marksL ws.length 1).map D.str) = (marksL ws.length 1).map D.str := List.take_of_length_le (by simp)
  have hneg : ¬ (1 + (ws.length : Int) < 0) := by omega
  have hneg2 : ¬ (1 + 3 * (e.seens.length : Int) < 0) := by omega
  simp [w1, w2, w3, w4, w5, w6, w7, w8, tmpAt, hk, hneg, hneg2]
  exact trOk_unord (L := [(0, 1), (0, 2)]) (by kernel_rfl) (by simp) (by simp [indepAt, indep, spares, around, aside, pre, isSlc, Tr.feels, Tr.all, moves, bare, opData, isExt, cmpOf, Op.operands, Call.operands, mentL, ment, D.noUndefL, D.noUndef, pureE])
end Go.Proofs.YtbcgldeleankcaaDoor
