/- The law FnAdds, at the level of data: true for all data. -/
import Derived.Test.YtoeadcefgpkdcaacE1
set_option linter.unusedSectionVars false
set_option linter.all false
set_option linter.unusedVariables false
set_option linter.unusedSimpArgs false
set_option maxRecDepth 100000
namespace Go.Proofs.Ytoeadcefgpkdcaa
open Go.Lft

theorem law_Adds : ∀ xs, Sh.hasL [.slice 5 1 (.int .u8)] xs → lim E 3 xs = some (.bool true, []) := by
  intro xs h
  obtain ⟨x, s, rfl, g, h⟩ := has_cons h
  obtain rfl := has_nil h
  obtain ⟨code, rfl⟩ := has_code _ _ g
  by_cases hbig : 1048576 < code.length
  · refine lim_run (E := E) rfl Try.func3 rfl (by kernel_rfl) (by kernel_rfl) ?_
    simp [Try.f3, tmpAt, hbig]
  have hc : code.length ≤ 1048576 := by omega
  have w1 := eq_DrawBox code hc
  try simp at w1
  have w2 := eq_DrawMail code hc
  have hok := boxDraw_ok (newCur code hc)
  have htl := mailDraw_len (newCur code hc)
  have e1 : (boxDraw (newCur code hc)).1 = drawBox code hc := rfl
  have e2 : (mailDraw (newCur code hc)).1 = drawMail code hc := rfl
  rw [e1] at hok
  rw [e2] at htl
  generalize drawBox code hc = b at *
  generalize drawMail code hc = t at *
  have hsz := boxOk_sz hok
  have hn := boxOk_nums hok
  have hl := boxOk_lens hok
  have w3 := eq_AddMail b 5 t (by omega)
  try simp at w3
  have w4 := eq_sAddMail b 5 t (by omega)
  try simp at w4
  have w5 := eq_BoxOk b (by omega)
  rw [hok] at w5
  try simp at w5
  have hap : addMail b 5 t = if boxOk (added b 5 t) = true then (added b 5 t, b.next) else (b, 0) := by
    unfold addMail
    by_cases h : boxOk (added b 5 t) = true
    · rw [if_pos ⟨hok, h⟩, if_pos h]
    · rw [if_neg (fun h2 => h h2.2), if_neg h]
  have hsz2 : szBox (addMail b 5 t).1 ≤ 20000 := by
    rw [hap]; split
    · rw [sz_added]; omega
    · simp; omega
  have w6 := eq_lsameBox (addMail b 5 t).1 (addMail b 5 t).1 (by omega)
  try simp at w6
  by_cases hb : boxOk (added b 5 t) = true
  · have hap2 : addMail b 5 t = (added b 5 t, b.next) := by rw [hap, if_pos hb]
    rw [hap2] at w3 w4 w6
    have hn0 : ¬ b.next = 0 := by omega
    have w7 := eq_BoxOk (added b 5 t) (by rw [sz_added]; omega)
    rw [hb] at w7
    try simp at w7
    have w8 := eq_sameMails b.mails b.mails (by omega)
    simp [added] at w3 w4 w6 w7 w8
    have hw1 : IntKind.i64.wrap (b.next + 1) = b.next + 1 := wrap_in (by omega) (by omega)
    have hw2 : IntKind.i64.wrap (b.mod + 1) = b.mod + 1 := wrap_in (by omega) (by omega)
    have hw3 : IntKind.i64.wrap ((b.mails.length : Int) + 1) = b.mails.length + 1 := wrap_in (by omega) (by omega)
    refine lim_run (E := E) rfl Try.func3 rfl (by kernel_rfl) (by kernel_rfl) ?_
    simp [Try.f3, tmpAt, hbig, w1, w2, w3, w4, w5, w6, hn0]
    have htm : ∀ x ∈ b.tombs, x.uid < b.next := by
      intro x hx
      have := ((boxOk_iff b).1 hok).2.2.2.2.2.2.2.2.1 x hx
      have := this.2.1
      omega
    refine loop_fr [3, 4, 5, 6, 9] [(3,0), (5,0)] (fun m st => ∃ (i : Nat), i + m = b.tombs.length ∧ st.env 10 = .int .i64 i) (b.tombs.length) _ ?_ ?_
    · exact ⟨0, by simp⟩
    rintro m0 ⟨env, rs⟩ hU0 hV0 ⟨i, hi, e0_10⟩ ih0; simp at hU0 hV0 e0_10
    have hw := wrap_up (show i < 4611686018427387904 by omega)
    simp [hU0, hV0, e0_10]
    refine RB_dec ?_ ?_ <;> intro h
    · have hx := htm b.tombs[i] (List.getElem_mem h)
      have hx2 : ¬ b.next ≤ b.tombs[i].uid := by omega
      simp [hU0, hV0, e0_10, h, hx2]
      refine ih0 (m0 - 1) _ (by omega) ?_ ?_ ⟨i + 1, by omega, ?_⟩
      · simp [hU0, hV0, e0_10]
      · simp [hU0, hV0, e0_10]
      simp [hU0, hV0, e0_10, hw]
    · simp [hU0, hV0, e0_10, h, tmpAt, w7, w8, hw1, hw2, hw3]
      omega
  · have hap2 : addMail b 5 t = (b, 0) := by rw [hap, if_neg hb]
    rw [hap2] at w3 w4 w6
    simp at w3 w4 w6
    refine lim_run (E := E) rfl Try.func3 rfl (by kernel_rfl) (by kernel_rfl) ?_
    simp [Try.f3, tmpAt, hbig, w1, w2, w3, w4, w5, w6]
end Go.Proofs.Ytoeadcefgpkdcaa
