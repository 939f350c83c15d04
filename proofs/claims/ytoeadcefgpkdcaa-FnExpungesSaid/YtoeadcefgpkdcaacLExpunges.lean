/- The law FnExpunges, at the level of data: true for all data. -/
import Derived.Test.YtoeadcefgpkdcaacP5
set_option linter.unusedSectionVars false
set_option linter.all false
set_option linter.unusedVariables false
set_option linter.unusedSimpArgs false
set_option maxRecDepth 100000
namespace Go.Proofs.Ytoeadcefgpkdcaa
open Go.Lft

set_option maxHeartbeats 4000000 in
theorem law_Expunges : ∀ xs, Sh.hasL [.slice 5 1 (.int .u8)] xs → lim E 10 xs = some (.bool true, []) := by
  intro xs h
  obtain ⟨x, s, rfl, g, h⟩ := has_cons h
  obtain rfl := has_nil h
  obtain ⟨code, rfl⟩ := has_code _ _ g
  by_cases hbig : 1048576 < code.length
  · refine lim_run (E := E) rfl Try.func10 rfl (by kernel_rfl) (by kernel_rfl) ?_
    simp [Try.f10, tmpAt, hbig]
  have hc : code.length ≤ 1048576 := by omega
  have w1 := eq_DrawBox code hc
  try simp at w1
  have hok := boxDraw_ok (newCur code hc)
  have hmd := boxDraw_mod (newCur code hc)
  have e1 : (boxDraw (newCur code hc)).1 = drawBox code hc := rfl
  rw [e1] at hok hmd
  generalize drawBox code hc = b at *
  have hsz := boxOk_sz hok
  have hn := boxOk_nums hok
  have hl := boxOk_lens hok
  have wa := eq_all
  have w2 := eq_Expunge b [⟨1, 9999⟩] (by omega) (by simp)
  have w3 := eq_sExpunge b [⟨1, 9999⟩] (by omega) (by simp)
  obtain ⟨x1, x2⟩ := exp_any b [⟨1, 9999⟩]
  obtain ⟨y1, y2, y3, y4, y5, y6⟩ := exp_all hok (by omega)
  rw [x1] at w3
  generalize setOfL (expunge b [⟨1, 9999⟩]).2 = gone at *
  generalize (expunge b [⟨1, 9999⟩]).1 = n at *
  have hsz2 := boxOk_sz y1
  have hl2 := boxOk_lens y1
  have w4 := eq_lsameBox n n (by omega)
  have w5 := eq_sameSet gone gone (by omega)
  have w6 := eq_BoxOk n (by omega)
  have w7 := eq_uids n (by omega)
  have w8 := eq_Vanished n b.mod (by omega)
  have w9 := eq_sSetSize gone (by omega)
  rw [y1] at w6
  try simp at w2
  try simp at w3
  try simp at w4
  try simp at w5
  try simp at w6
  try simp at w7
  refine lim_run (E := E) rfl Try.func10 rfl (by kernel_rfl) (by kernel_rfl) ?_
  simp [Try.f10, tmpAt, hbig, w1, w2, w3, w4, w5, w6, wa]
  refine ⟨trOk_unord (L := [(0, 1), (0, 6), (1, 6), (2, 6), (3, 6), (4, 5), (4, 6), (5, 6), (5, 7)]) (by kernel_rfl) (by simp) (by simp [indepAt, indep, spares, around, pre, isSlc, Tr.feels, Tr.all, moves, bare, opData, isExt, cmpOf, Op.operands, Call.operands, mentL, ment, D.noUndefL, D.noUndef, pureE, w2, wa]), ?_⟩
  refine ⟨trOk_unord (L := [(0, 1), (0, 6), (1, 6), (2, 6), (3, 6), (4, 5), (4, 6), (5, 6), (5, 7)]) (by kernel_rfl) (by simp) (by simp [indepAt, indep, spares, around, pre, isSlc, Tr.feels, Tr.all, moves, bare, opData, isExt, cmpOf, Op.operands, Call.operands, mentL, ment, D.noUndefL, D.noUndef, pureE, w3, wa]), ?_⟩
  repeat (refine And.intro (by first | omega | (simp; omega)) ?_)
  refine loop_fr [3, 4, 5] [(3,0), (4,0), (19,2), (25,2)] (fun m st => ∃ (i : Nat), i + m = b.mails.length ∧ st.env 8 = .int .i64 i) (b.mails.length) _ ?_ ?_
  · exact ⟨0, by simp⟩
  rintro m0 ⟨env, rs⟩ hU0 hV0 ⟨i, hi, e0_8⟩ ih0; simp at hU0 hV0 e0_8
  have hw := wrap_up (show i < 4611686018427387904 by omega)
  simp [hU0, hV0, e0_8]
  refine RB_dec ?_ ?_ <;> intro h
  · obtain ⟨v1, v2⟩ := y3 b.mails[i] (List.getElem_mem h)
    have z1 := eq_SetHas gone b.mails[i].uid (by omega)
    have z2 := eq_in (uidsL n) b.mails[i].uid (by rw [uidsL_len]; omega)
    rw [v1] at z1
    rw [v2, v1] at z2
    obtain ⟨fl, hfl⟩ := within31 (boxOk_flags hok b.mails[i] (List.getElem_mem h))
    have hq : IntKind.i64.wrap (b.mails[i].flags.tdiv 8) = b.mails[i].flags.tdiv 8 := by
      rw [hfl, Int.tdiv_eq_ediv_of_nonneg (by omega)]
      exact wrap_in (by omega) (by omega)
    simp [hU0, hV0, e0_8, h, z1, z2, w7, hq, tmpAt]
    refine ⟨trOk_unord (L := [(0, 1), (0, 2), (0, 4), (0, 5), (0, 6), (0, 7), (0, 8), (1, 4), (1, 5), (1, 6), (1, 7), (1, 8), (2, 4), (2, 5), (2, 6), (2, 7), (2, 8), (3, 4), (3, 5), (3, 6), (3, 7), (3, 8), (11, 12), (11, 13), (11, 15), (11, 17), (11, 18), (12, 15), (12, 17), (12, 18), (13, 15), (13, 17), (13, 18), (14, 15), (14, 17), (14, 18), (15, 17), (15, 18), (16, 17), (16, 18)]) (by kernel_rfl) (by simp) (by simp [indepAt, indep, spares, around, pre, isSlc, Tr.feels, Tr.all, moves, bare, opData, isExt, cmpOf, Op.operands, Call.operands, mentL, ment, D.noUndefL, D.noUndef, pureE, z1, z2, w7, hq]), ?_⟩
    refine ih0 (m0 - 1) _ (by omega) ?_ ?_ ⟨i + 1, by omega, ?_⟩
    · simp [hU0, hV0, e0_8]
    · simp [hU0, hV0, e0_8]
    simp [hU0, hV0, e0_8, hw]
  · have y7 : IntKind.i64.wrap (b.mails.length : Int) = (b.mails.length : Int) := wrap_in (by omega) (by omega)
    simp [y5] at w8
    generalize vanished n b.mod = V at *
    obtain ⟨told, ok⟩ := V
    simp only at y6 w8
    cases ok
    · simp [hU0, hV0, e0_8, h, w8, w9, y4, y5, y7, tmpAt]
    · obtain rfl := y6 rfl
      simp [hU0, hV0, e0_8, h, w5, w8, w9, y4, y5, y7, tmpAt]
end Go.Proofs.Ytoeadcefgpkdcaa
