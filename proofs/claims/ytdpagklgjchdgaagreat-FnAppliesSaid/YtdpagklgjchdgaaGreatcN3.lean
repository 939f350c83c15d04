/- Edits: draws. -/
import Derived.Test.YtdpagklgjchdgaaGreatcM1
import Derived.Test.YtdpagklgjchdgaaGreatcW1
set_option linter.unusedSectionVars false
set_option linter.all false
set_option linter.unusedVariables false
set_option linter.unusedSimpArgs false
set_option maxRecDepth 100000
namespace Go.Proofs.YtdpagklgjchdgaaGreat
open Go.Lft

theorem ex_DrawEdit (code : S) (hc : code.length ≤ 1048576) : ∃ e : Edit, szEdit e ≤ 3000 ∧ lim E 27 [.lst false 5 1 (ofBytes code)] = some (encEdit false true e, []) := by
  have w := eq_l01New code hc
  obtain ⟨⟨e, c1⟩, ⟨he1, he2⟩, we⟩ := ex_l10Edit (newCur code hc)
  try simp at w
  try simp at we
  refine ⟨e, he2, ?_⟩
  refine lim_run (E := E) rfl Tryz.func27 rfl (by kernel_rfl) (by kernel_rfl) ?_
  simp [Tryz.f27, tmpAt, w, we]
set_option maxHeartbeats 4000000 in
theorem ex_l10Any (c : Cur) : ∃ r : Edit × Cur, szEdit r.1 ≤ 5000 ∧ lim E 65 [.pto (encCur c)] = some (encEdit false true r.1, [.pto (encCur r.2)]) := by
  refine ex_split ?_
  have hb1 := below_in c 14
  generalize hQ1 : below c 14 = Q at *
  obtain ⟨k, c1⟩ := Q
  simp at hb1
  have hb2 := below_in c1 60
  generalize hQ2 : below c1 60 = Q at *
  obtain ⟨x, c2⟩ := Q
  simp at hb2
  obtain ⟨⟨e, c3⟩, ⟨he1, he2⟩, we⟩ := ex_l10Edit c2
  try simp at we
  simp only at he2
  have hz : szEdit e = e.box.length + e.to.length + e.set_.length + e.text.length := rfl
  have t4 := tmod_in hb2.1 (show (0 : Int) < 4 by omega)
  have t2 := tmod_in hb2.1 (show (0 : Int) < 2 by omega)
  obtain ⟨kk, bx, to, st, hw, bits, since, tx⟩ := e
  simp only at hz we
  by_cases g0 : k = 0
  · refine lim_ex (E := E) rfl Tryz.func65 rfl (by kernel_rfl) (by kernel_rfl) ?_
    simp [Tryz.f65, tmpAt, hQ1, hQ2, we, g0]
    exact ⟨(⟨x.tmod 10, bx, to, st, hw, bits, since, tx⟩, c3), by simp only [szEdit]; omega, by simp⟩
  by_cases g1 : k = 1
  · have hc : x.tmod 2 = 0 ∨ x.tmod 2 = 1 := by omega
    rcases hc with hc | hc
    · refine lim_ex (E := E) rfl Tryz.func65 rfl (by kernel_rfl) (by kernel_rfl) ?_
      simp [Tryz.f65, tmpAt, hQ1, hQ2, we, g0, g1, hc]
      exact ⟨(⟨kk, [], to, st, hw, bits, since, tx⟩, c3), by simp [szEdit]; omega, by simp⟩
    · refine lim_ex (E := E) rfl Tryz.func65 rfl (by kernel_rfl) (by kernel_rfl) ?_
      simp [Tryz.f65, tmpAt, hQ1, hQ2, we, g0, g1, hc]
      exact ⟨(⟨kk, [65], to, st, hw, bits, since, tx⟩, c3), by simp [szEdit]; omega, by simp⟩
  by_cases g2 : k = 2
  · have hc : x.tmod 4 = 0 ∨ x.tmod 4 = 1 ∨ x.tmod 4 = 2 ∨ x.tmod 4 = 3 := by omega
    rcases hc with hc | hc | hc | hc
    · refine lim_ex (E := E) rfl Tryz.func65 rfl (by kernel_rfl) (by kernel_rfl) ?_
      simp [Tryz.f65, tmpAt, hQ1, hQ2, we, g0, g1, g2, hc]
      exact ⟨(⟨kk, bx, to, st, hw, bits, -2, tx⟩, c3), by simp only [szEdit]; omega, by simp⟩
    · refine lim_ex (E := E) rfl Tryz.func65 rfl (by kernel_rfl) (by kernel_rfl) ?_
      simp [Tryz.f65, tmpAt, hQ1, hQ2, we, g0, g1, g2, hc]
      exact ⟨(⟨kk, bx, to, st, hw, bits, -1, tx⟩, c3), by simp only [szEdit]; omega, by simp⟩
    · refine lim_ex (E := E) rfl Tryz.func65 rfl (by kernel_rfl) (by kernel_rfl) ?_
      simp [Tryz.f65, tmpAt, hQ1, hQ2, we, g0, g1, g2, hc]
      exact ⟨(⟨kk, bx, to, st, hw, bits, 100000, tx⟩, c3), by simp only [szEdit]; omega, by simp⟩
    · refine lim_ex (E := E) rfl Tryz.func65 rfl (by kernel_rfl) (by kernel_rfl) ?_
      simp [Tryz.f65, tmpAt, hQ1, hQ2, we, g0, g1, g2, hc]
      exact ⟨(⟨kk, bx, to, st, hw, bits, 100001, tx⟩, c3), by simp only [szEdit]; omega, by simp⟩
  by_cases g3 : k = 3
  · refine lim_ex (E := E) rfl Tryz.func65 rfl (by kernel_rfl) (by kernel_rfl) ?_
    simp [Tryz.f65, tmpAt, hQ1, hQ2, we, g0, g1, g2, g3]
    exact ⟨(⟨kk, bx, to, st, x.tmod 5, bits, since, tx⟩, c3), by simp only [szEdit]; omega, by simp⟩
  by_cases g4 : k = 4
  · refine lim_ex (E := E) rfl Tryz.func65 rfl (by kernel_rfl) (by kernel_rfl) ?_
    simp [Tryz.f65, tmpAt, hQ1, hQ2, we, g0, g1, g2, g3, g4]
    exact ⟨(⟨kk, bx, to, st, hw, x, since, tx⟩, c3), by simp only [szEdit]; omega, by simp⟩
  by_cases g5 : k = 5
  · have hc : x.tmod 2 = 0 ∨ x.tmod 2 = 1 := by omega
    rcases hc with hc | hc
    · refine lim_ex (E := E) rfl Tryz.func65 rfl (by kernel_rfl) (by kernel_rfl) ?_
      simp [Tryz.f65, tmpAt, hQ1, hQ2, we, g0, g1, g2, g3, g4, g5, hc]
      exact ⟨(⟨kk, bx, to, st, hw, bits, since, [120]⟩, c3), by simp [szEdit]; omega, by simp⟩
    · refine lim_ex (E := E) rfl Tryz.func65 rfl (by kernel_rfl) (by kernel_rfl) ?_
      simp [Tryz.f65, tmpAt, hQ1, hQ2, we, g0, g1, g2, g3, g4, g5, hc]
      exact ⟨(⟨kk, bx, to, st, hw, bits, since, [97, 0]⟩, c3), by simp [szEdit]; omega, by simp⟩
  refine lim_ex (E := E) rfl Tryz.func65 rfl (by kernel_rfl) (by kernel_rfl) ?_
  simp [Tryz.f65, tmpAt, hQ1, hQ2, we, g0, g1, g2, g3, g4, g5]
  exact ⟨(⟨kk, bx, to, st, hw, bits, since, tx⟩, c3), by simp only [szEdit]; omega, by simp⟩
theorem ex_DrawApply (code : S) (hc : code.length ≤ 1048576) : ∃ (s : Store) (e : Edit), szStore s ≤ 200000 ∧ szEdit e ≤ 5000 ∧ lim E 23 [.lst false 5 1 (ofBytes code)] = some (.tup [encStore false false s, encEdit false true e], []) := by
  have w := eq_l01New code hc
  obtain ⟨⟨e, c1⟩, he, we⟩ := ex_l10Any (newCur code hc)
  have w2 := eq_l09Any c1
  try simp at w
  try simp at we
  try simp at w2
  refine ⟨(storeAny c1).1, e, storeAny_sz _, he, ?_⟩
  refine lim_run (E := E) rfl Tryz.func23 rfl (by kernel_rfl) (by kernel_rfl) ?_
  simp [Tryz.f23, tmpAt, w, we, w2]
  exact trOk_unord (L := [(0, 2), (1, 2), (2, 3)]) (by kernel_rfl) (by simp) (by simp [indepAt, indep, spares, around, aside, pre, isSlc, Tr.feels, Tr.all, moves, bare, opData, isExt, cmpOf, Op.operands, Call.operands, mentL, ment, D.noUndefL, D.noUndef, pureE])
end Go.Proofs.YtdpagklgjchdgaaGreat
