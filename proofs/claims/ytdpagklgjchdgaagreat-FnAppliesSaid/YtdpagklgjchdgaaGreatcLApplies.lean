/- The law FnApplies, at the level of data: true for all data. -/
import Derived.Test.YtdpagklgjchdgaaGreatcN2
import Derived.Test.YtdpagklgjchdgaaGreatcN3
import Derived.Test.YtdpagklgjchdgaaGreatcA5
import Derived.Test.YtdpagklgjchdgaaGreatcW1
set_option linter.unusedSectionVars false
set_option linter.all false
set_option linter.unusedVariables false
set_option linter.unusedSimpArgs false
set_option maxRecDepth 100000
namespace Go.Proofs.YtdpagklgjchdgaaGreat
open Go.Lft

set_option maxHeartbeats 8000000 in
theorem law_Applies : ∀ xs, Sh.hasL [.slice 5 1 (.int .u8)] xs → lim E 4 xs = some (.bool true, []) := by
  intro xs h
  obtain ⟨x, s, rfl, g, h⟩ := has_cons h
  obtain rfl := has_nil h
  obtain ⟨code, rfl⟩ := has_code _ _ g
  by_cases hbig : 1048576 < code.length
  · refine lim_run (E := E) rfl Tryz.func4 rfl (by kernel_rfl) (by kernel_rfl) ?_
    simp [Tryz.f4, tmpAt, hbig]
  have hc : code.length ≤ 1048576 := by omega
  obtain ⟨s, e, hs, he, w1⟩ := ex_DrawApply code hc
  obtain ⟨x, hg, w2⟩ := ex_DrawStore code hc
  obtain ⟨e2, he2, w3⟩ := ex_DrawEdit code hc
  have hx := storeOk_sz hg.ok
  have a1 := eq_Apply s e (by omega) (by omega)
  have a2 := eq_sApply s e (by omega) (by omega)
  have a3 := eq_Apply x e2 (by omega) (by omega)
  have z1 := apply_sz s e
  have z2 := apply_sz x e2
  have a4 := eq_StoreOk (apply x e2).1 (by omega)
  rw [apply_ok e2 hg.ok] at a4
  have a5 := eq_StoreOk x (by omega)
  rw [hg.ok] at a5
  have d1 := apply_same s e
  have d2 := apply_same x e2
  generalize apply s e = Q1 at *
  obtain ⟨q1, k1⟩ := Q1
  generalize apply x e2 = Q2 at *
  obtain ⟨q2, k2⟩ := Q2
  simp only at z1 z2 d1 d2
  have s1 := eq_sSameStore q1 q1 (by omega)
  have s2 := eq_sSameStore q1 s (by omega)
  have s3 := eq_sSameStore x q2 (by omega)
  have t1 : k1 = 0 ∨ q1 = s := d1
  have t2 : k2 = 0 ∨ x = q2 := d2.imp id Eq.symm
  try simp at w1
  try simp at w2
  try simp at w3
  try simp at a1
  try simp at a2
  try simp at a3
  try simp at a4
  try simp at a5
  try simp at s1
  try simp at s2
  try simp at s3
  refine lim_run (E := E) rfl Tryz.func4 rfl (by kernel_rfl) (by kernel_rfl) ?_
  simp [Tryz.f4, tmpAt, hbig, w1, w2, w3, a1, a2, a3, a4, a5, s1, s2, s3]
  refine ⟨trOk_unord (L := [(0, 1), (0, 2), (0, 7), (1, 7), (2, 7), (3, 7), (4, 7), (5, 6), (5, 7), (6, 7), (6, 8)]) (by kernel_rfl) (by simp) (by simp [indepAt, indep, spares, around, aside, pre, isSlc, Tr.feels, Tr.all, moves, bare, opData, isExt, cmpOf, Op.operands, Call.operands, mentL, ment, D.noUndefL, D.noUndef, pureE]), ?_⟩
  by_cases hk1 : k1 = 0 <;> by_cases hk2 : k2 = 0
  all_goals
    simp only [hk1, hk2, false_or, true_or] at t1 t2
    try subst t1
    try subst t2
    simp [tmpAt, hk1, hk2, a4, a5, s1, s2, s3]
end Go.Proofs.YtdpagklgjchdgaaGreat
