/- The law FnBoxesTold, at the level of data: true for all data. -/
import Derived.Test.YtoeadcefgpkdcaacE3
import Derived.Test.YtoeadcefgpkdcaacD16
import Derived.Test.YtoeadcefgpkdcaacW1
set_option linter.unusedSectionVars false
set_option linter.all false
set_option linter.unusedVariables false
set_option linter.unusedSimpArgs false
set_option maxRecDepth 100000
namespace Go.Proofs.Ytoeadcefgpkdcaa
open Go.Lft

theorem setFlags_any (b : Box) (s : List Range) (how bits since : Int) : sAdds (setFlags b s how bits since).2.1 = setOfL (setFlags b s how bits since).2.1 ∧ sAdds (setFlags b s how bits since).2.2 = setOfL (setFlags b s how bits since).2.2 ∧ (setOfL (setFlags b s how bits since).2.1).length ≤ 30 ∧ (setOfL (setFlags b s how bits since).2.2).length ≤ 30 := by
  unfold setFlags
  split
  · rename_i h
    have hok : boxOk b = true := by
      have := h.1; unfold setFlagsOk at this; rw [Bool.and_eq_true] at this; exact this.1
    refine ⟨sAdds_uids hok _, sAdds_uids hok _, ?_, ?_⟩
    · exact Nat.le_trans (setOfL_len _) (uids_up hok (isDone s how bits since)).2.2
    · exact Nat.le_trans (setOfL_len _) (uids_up hok (isLate s since)).2.2
  · simp [setOfL]
theorem expunge_any (b : Box) (s : List Range) : sAdds (expunge b s).2 = setOfL (expunge b s).2 ∧ (setOfL (expunge b s).2).length ≤ 30 := by
  unfold expunge
  split
  · rename_i h
    exact ⟨sAdds_uids h.1 _, Nat.le_trans (setOfL_len _) (uids_up h.1 (isGone s)).2.2⟩
  · simp [setOfL]
theorem sz_addMail (b : Box) (f : Int) (t : S) : szBox (addMail b f t).1 ≤ szBox b + 1 + t.length := by
  unfold addMail; split
  · simp only [sz_added]; omega
  · simp only; omega
theorem sz_setFlags (b : Box) (s : List Range) (how bits since : Int) : szBox (setFlags b s how bits since).1 ≤ szBox b := by
  unfold setFlags; split
  · simp only [sz_flagBox]; omega
  · simp only; omega
theorem sz_expunge (b : Box) (s : List Range) : szBox (expunge b s).1 ≤ szBox b + 10000 := by
  unfold expunge; split
  · rename_i h
    have := boxOk_sz h.2.2.2
    simp only; omega
  · simp only; omega
theorem sz_forget (b : Box) (u : Int) : szBox (forget b u) ≤ szBox b := by
  unfold forget; split
  · have h : (b.tombs.filter (fun t => decide (u < t.mod))).length ≤ b.tombs.length := List.length_filter_le ..
    have e1 : szBox (forgot b u) = b.name.length + (b.mails.length + tot (fun (y : Mail) => szMail y) b.mails) + (b.tombs.filter (fun t => decide (u < t.mod))).length := rfl
    have e2 : szBox b = b.name.length + (b.mails.length + tot (fun (y : Mail) => szMail y) b.mails) + b.tombs.length := rfl
    omega
  · exact Nat.le_refl _
set_option maxHeartbeats 4000000 in
theorem law_BoxesTold : ∀ xs, Sh.hasL [.slice 5 1 (.int .u8)] xs → lim E 6 xs = some (.bool true, []) := by
  intro xs h
  obtain ⟨x, s, rfl, g, h⟩ := has_cons h
  obtain rfl := has_nil h
  obtain ⟨code, rfl⟩ := has_code _ _ g
  by_cases hbig : 1048576 < code.length
  · refine lim_run (E := E) rfl Try.func6 rfl (by kernel_rfl) (by kernel_rfl) ?_
    simp [Try.f6, tmpAt, hbig]
  have hc : code.length ≤ 1048576 := by omega
  obtain ⟨⟨b, flags, text⟩, ⟨hb1, hb2⟩, w1⟩ := ex_DrawAddMail code hc
  obtain ⟨⟨d, s⟩, ⟨hd1, hd2⟩, w2⟩ := ex_DrawExpunge code hc
  obtain ⟨⟨q, h, how, bits, since⟩, ⟨hq1, hq2⟩, w3⟩ := ex_DrawSetFlags code hc
  obtain ⟨⟨k, up⟩, hk1, w4⟩ := ex_DrawForgetTombs code hc
  obtain ⟨⟨name, valid⟩, hn1, w5⟩ := ex_DrawBoxNew code hc
  simp only at hb1 hb2 hd1 hd2 hq1 hq2 hk1 hn1 w1 w2 w3 w4 w5
  have a1 := eq_AddMail b flags text (by omega)
  have a2 := eq_sAddMail b flags text (by omega)
  have a3 := eq_Expunge d s (by omega) (by omega)
  have a4 := eq_sExpunge d s (by omega) (by omega)
  have a5 := eq_SetFlags q h how bits since (by omega) (by omega)
  have a6 := eq_sSetFlags q h how bits since (by omega) (by omega)
  have a7 := eq_ForgetTombs k up (by omega)
  have a8 := eq_sForgetTombs k up (by omega)
  have a9 := eq_BoxNew name valid (by omega)
  have a10 := eq_sBoxNew name valid (by omega)
  have a11 := eq_BoxOk b (by omega)
  have a12 := eq_sBoxOk b (by omega)
  obtain ⟨x1, x2⟩ := expunge_any d s
  obtain ⟨y1, y2, y3, y4⟩ := setFlags_any q h how bits since
  rw [x1] at a4
  rw [y1, y2] at a6
  have z1 := sz_addMail b flags text
  have z2 := sz_expunge d s
  have z3 := sz_setFlags q h how bits since
  have z4 := sz_forget k up
  have hu : ((addMail b flags text).2 > 0 ∨ (addMail b flags text).1 = b) := by
    unfold addMail; split
    · rename_i h
      have := boxOk_nums h.1
      left; simp only; omega
    · right; rfl
  have hnew : boxOk (boxNew name valid) = true → boxNewR name valid = boxNew name valid := fun h => by unfold boxNewR; rw [if_pos h]
  generalize addMail b flags text = A at *
  obtain ⟨a, uid⟩ := A
  generalize expunge d s = B at *
  obtain ⟨e, gone⟩ := B
  generalize setFlags q h how bits since = C at *
  obtain ⟨n, done, late⟩ := C
  generalize forget k up = F at *
  simp only at x1 x2 y1 y2 y3 y4 z1 z2 z3 z4 hu
  generalize setOfL gone = gone' at *
  generalize setOfL done = done' at *
  generalize setOfL late = late' at *
  have s1 := eq_lsameBox a a (by omega)
  have s2 := eq_lsameBox a b (by omega)
  have s3 := eq_lsameBox e e (by omega)
  have s4 := eq_lsameBox n n (by omega)
  have s5 := eq_lsameBox F F (by omega)
  have s6 := eq_sameSet gone' gone' (by omega)
  have s7 := eq_sameSet done' done' (by omega)
  have s8 := eq_sameSet late' late' (by omega)
  try simp at w1
  try simp at w2
  try simp at w3
  try simp at w4
  try simp at w5
  try simp at a1
  try simp at a2
  try simp at a3
  try simp at a4
  try simp at a5
  try simp at a6
  try simp at a7
  try simp at a8
  try simp at a9
  try simp at a10
  try simp at a11
  try simp at a12
  try simp at s1
  try simp at s2
  try simp at s3
  try simp at s4
  try simp at s5
  try simp at s6
  try simp at s7
  try simp at s8
  have hn2 : (boxNew name valid).mails = [] ∧ (boxNew name valid).tombs = [] := ⟨rfl, rfl⟩
  have s9 : boxOk (boxNew name valid) = true → _ := fun _ => eq_BoxOk (boxNew name valid) (by simp [szBox, boxNew, tot]; omega)
  cases hn : boxOk (boxNew name valid)
  · rw [hn] at a9 a10
    by_cases hp : 0 < uid
    · refine lim_run (E := E) rfl Try.func6 rfl (by kernel_rfl) (by kernel_rfl) ?_
      simp [Try.f6, tmpAt, hbig, w1, w2, w3, w4, w5, a1, a2, a3, a4, a5, a6, a7, a8, a9, a10, a11, a12, s1, s3, s4, s5, s6, s7, s8, hp]
      exact trOk_few [45, 48] (L := [(45, 46), (45, 47)]) (by kernel_rfl) (by simp) (by first | kernel_rfl | rfl) (by simp [indepAt, indep, spares, around, pre, isSlc, Tr.feels, Tr.all, moves, bare, opData, isExt, cmpOf, Op.operands, Call.operands, mentL, ment, D.noUndefL, D.noUndef, pureE])
    · obtain rfl : a = b := by rcases hu with hu | hu; exact absurd hu hp; exact hu
      try simp at s1
      refine lim_run (E := E) rfl Try.func6 rfl (by kernel_rfl) (by kernel_rfl) ?_
      simp [Try.f6, tmpAt, hbig, w1, w2, w3, w4, w5, a1, a2, a3, a4, a5, a6, a7, a8, a9, a10, a11, a12, s1, s3, s4, s5, s6, s7, s8, hp]
      exact trOk_few [45, 48] (L := [(45, 46), (45, 47)]) (by kernel_rfl) (by simp) (by first | kernel_rfl | rfl) (by simp [indepAt, indep, spares, around, pre, isSlc, Tr.feels, Tr.all, moves, bare, opData, isExt, cmpOf, Op.operands, Call.operands, mentL, ment, D.noUndefL, D.noUndef, pureE])
  · rw [hn] at a9 a10
    rw [hnew hn] at a9 a10
    have s9 := s9 hn
    rw [hn] at s9
    try simp at s9
    try simp at a9
    try simp at a10
    by_cases hp : 0 < uid
    · refine lim_run (E := E) rfl Try.func6 rfl (by kernel_rfl) (by kernel_rfl) ?_
      simp [Try.f6, tmpAt, hbig, w1, w2, w3, w4, w5, a1, a2, a3, a4, a5, a6, a7, a8, a9, a10, a11, a12, s1, s3, s4, s5, s6, s7, s8, s9, hp]
      exact trOk_few [45, 48] (L := [(45, 46), (45, 47)]) (by kernel_rfl) (by simp) (by first | kernel_rfl | rfl) (by simp [indepAt, indep, spares, around, pre, isSlc, Tr.feels, Tr.all, moves, bare, opData, isExt, cmpOf, Op.operands, Call.operands, mentL, ment, D.noUndefL, D.noUndef, pureE])
    · obtain rfl : a = b := by rcases hu with hu | hu; exact absurd hu hp; exact hu
      try simp at s1
      refine lim_run (E := E) rfl Try.func6 rfl (by kernel_rfl) (by kernel_rfl) ?_
      simp [Try.f6, tmpAt, hbig, w1, w2, w3, w4, w5, a1, a2, a3, a4, a5, a6, a7, a8, a9, a10, a11, a12, s1, s3, s4, s5, s6, s7, s8, s9, hp]
      exact trOk_few [45, 48] (L := [(45, 46), (45, 47)]) (by kernel_rfl) (by simp) (by first | kernel_rfl | rfl) (by simp [indepAt, indep, spares, around, pre, isSlc, Tr.feels, Tr.all, moves, bare, opData, isExt, cmpOf, Op.operands, Call.operands, mentL, ment, D.noUndefL, D.noUndef, pureE])
end Go.Proofs.Ytoeadcefgpkdcaa
