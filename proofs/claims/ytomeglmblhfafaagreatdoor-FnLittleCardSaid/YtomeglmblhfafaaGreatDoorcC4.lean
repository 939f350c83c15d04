/- Draws of boxes. -/
import Derived.Test.YtomeglmblhfafaaGreatDoorcP1
set_option linter.unusedSectionVars false
set_option linter.all false
set_option linter.unusedVariables false
set_option linter.unusedSimpArgs false
set_option maxRecDepth 100000
namespace Go.Proofs.YtomeglmblhfafaaGreatDoor
open Go.Lft

theorem addMail_mod (b : Box) (f : Int) (t : S) : (addMail b f t).1.mod ≤ b.mod + 1 := by
  unfold addMail; split <;> simp [added] <;> omega
theorem setFlags_mod (b : Box) (s : List Range) (how bits since : Int) : (setFlags b s how bits since).1.mod ≤ b.mod + 1 := by
  unfold setFlags; split
  · simp only [flagBox, modAfter]; split <;> omega
  · simp only; omega
theorem expunge_mod (b : Box) (s : List Range) : (expunge b s).1.mod ≤ b.mod + 1 := by
  unfold expunge; split <;> simp [expBox] <;> omega
theorem forget_mod (b : Box) (u : Int) : (forget b u).mod = b.mod := by
  unfold forget; split <;> rfl
set_option maxHeartbeats 4000000 in
theorem ex_l08Box (c : Cur) : ∃ r : Box × Cur, (boxOk r.1 = true ∧ r.1.mod ≤ 19) ∧ lim E 94 [.pto (encCur c)] = some (encBox false true r.1, [.pto (encCur r.2)]) := by
  refine ex_split ?_
  refine lim_ex (E := E) rfl Tryz.func94 rfl (by kernel_rfl) (by kernel_rfl) ?_
  simp [Tryz.f94, tmpAt]
  have hp := pick_mem c [[105, 110, 98, 111, 120], [119, 111, 114, 107], [111, 108, 100]] (by simp)
  have hb := below_in (pick c [[105, 110, 98, 111, 120], [119, 111, 114, 107], [111, 108, 100]]).2 5
  generalize pick c [[105, 110, 98, 111, 120], [119, 111, 114, 107], [111, 108, 100]] = P at *
  obtain ⟨nm, c1⟩ := P
  simp at hp hb
  have hnm : boxName nm = true ∧ nm.length ≤ 8 := by rcases hp with rfl | rfl | rfl <;> decide
  generalize below c1 5 = Q at *
  obtain ⟨v, c2⟩ := Q
  simp at hb
  have hwv : IntKind.i64.wrap (1 + v) = 1 + v := wrap_in (by omega) (by omega)
  have hbn : boxOk (boxNew nm (1 + v)) = true := boxNew_ok hnm.1 (by omega) (by omega)
  have wb := eq_sBoxNew nm (1 + v) (by omega)
  have hR : boxNewR nm (1 + v) = boxNew nm (1 + v) := by unfold boxNewR; rw [if_pos hbn]
  rw [hR, hbn] at wb
  have hb0 : (boxNew nm (1 + v)).mod = 1 := rfl
  generalize boxNew nm (1 + v) = b0 at *
  try simp at wb
  simp [hwv, wb]
  refine loop_fr [0, 2, 3] [(2,0)] (fun m st => ∃ (i : Nat) (b : Box) (c' : Cur), i + m = 18 ∧ boxOk b = true ∧ b.mod ≤ 1 + i ∧ st.env 5 = .int .i64 i ∧ st.rs (3,0) = some ⟨true, encBox false true b⟩ ∧ st.rs (0,99) = some ⟨true, encCur c'⟩) (18) _ ?_ ?_
  · exact ⟨0, b0, c2, by simp [hbn, hb0]⟩
  rintro m0 ⟨env, rs⟩ hU0 hV0 ⟨i, b, c', hi, hok, hmd, e0_5, r0_3_0, r0_0_99⟩ ih0; simp at hU0 hV0 e0_5 r0_3_0 r0_0_99
  have hw := wrap_up (show i < 4611686018427387904 by omega)
  have hb16 := below_in c' 16
  generalize hq : below c' 16 = Q at *
  obtain ⟨x, c3⟩ := Q
  simp at hb16
  have hwx : IntKind.i64.wrap (2 + x) = 2 + x := wrap_in (by omega) (by omega)
  have hsz := boxOk_sz hok
  simp [hU0, hV0, e0_5, r0_3_0, r0_0_99, hq, hwx]
  refine RB_dec ?_ ?_ <;> intro h
  · have hm0 : i < 18 := by omega
    have hb6 := below_in c3 6
    generalize hq6 : below c3 6 = Q at *
    obtain ⟨k, c4⟩ := Q
    simp at hb6
    have hk : k = 0 ∨ k = 1 ∨ k = 2 ∨ k = 3 ∨ k = 4 ∨ k = 5 := by omega
    have w1 := eq_sAddMail b (below c4 32).1 (mailDraw (below c4 32).2).1 (by have := mailDraw_len (below c4 32).2; omega)
    try simp at w1
    have w2 : ∀ (how bits : Int), _ := fun how bits => eq_sSetFlags b (setDraw c4).1 how bits (-1) (by omega) (by have := setDraw_len c4; omega)
    try simp at w2
    have w3 := eq_sExpunge b (setDraw c4).1 (by omega) (by have := setDraw_len c4; omega)
    try simp at w3
    have w4 : ∀ u : Int, _ := fun u => eq_sForgetTombs b u (by omega)
    try simp at w4
    rcases hk with rfl | rfl | rfl | rfl | rfl | rfl
    · simp [hU0, hV0, e0_5, r0_3_0, r0_0_99, hq6, w1]
      refine ⟨trOk_unord (L := [(0, 1), (0, 2), (0, 3), (0, 4), (1, 3), (2, 3), (7, 8), (8, 9)]) (by kernel_rfl) (by simp) (by simp [indepAt, indep, spares, around, aside, pre, isSlc, Tr.feels, Tr.all, moves, bare, opData, isExt, cmpOf, Op.operands, Call.operands, mentL, ment, D.noUndefL, D.noUndef, pureE, hU0, hV0, e0_5, r0_3_0, r0_0_99]), ?_⟩
      refine ih0 (m0 - 1) _ (by omega) ?_ ?_ ⟨i + 1, (addMail b (below c4 32).1 (mailDraw (below c4 32).2).1).1, (mailDraw (below c4 32).2).2, by omega, addMail_ok hok, Int.le_trans (addMail_mod ..) (by omega), ?_⟩
      · simp [hU0, hV0, e0_5, r0_3_0, r0_0_99]
      · simp [hU0, hV0, e0_5, r0_3_0, r0_0_99]
      simp [hU0, hV0, e0_5, r0_3_0, r0_0_99, hw]
    · simp [hU0, hV0, e0_5, r0_3_0, r0_0_99, hq6, w1]
      refine ⟨trOk_unord (L := [(0, 1), (0, 2), (0, 3), (0, 4), (1, 3), (2, 3), (7, 8), (8, 9)]) (by kernel_rfl) (by simp) (by simp [indepAt, indep, spares, around, aside, pre, isSlc, Tr.feels, Tr.all, moves, bare, opData, isExt, cmpOf, Op.operands, Call.operands, mentL, ment, D.noUndefL, D.noUndef, pureE, hU0, hV0, e0_5, r0_3_0, r0_0_99]), ?_⟩
      refine ih0 (m0 - 1) _ (by omega) ?_ ?_ ⟨i + 1, (addMail b (below c4 32).1 (mailDraw (below c4 32).2).1).1, (mailDraw (below c4 32).2).2, by omega, addMail_ok hok, Int.le_trans (addMail_mod ..) (by omega), ?_⟩
      · simp [hU0, hV0, e0_5, r0_3_0, r0_0_99]
      · simp [hU0, hV0, e0_5, r0_3_0, r0_0_99]
      simp [hU0, hV0, e0_5, r0_3_0, r0_0_99, hw]
    · simp [hU0, hV0, e0_5, r0_3_0, r0_0_99, hq6, w1]
      refine ⟨trOk_unord (L := [(0, 1), (0, 2), (0, 3), (0, 4), (1, 3), (2, 3), (7, 8), (8, 9)]) (by kernel_rfl) (by simp) (by simp [indepAt, indep, spares, around, aside, pre, isSlc, Tr.feels, Tr.all, moves, bare, opData, isExt, cmpOf, Op.operands, Call.operands, mentL, ment, D.noUndefL, D.noUndef, pureE, hU0, hV0, e0_5, r0_3_0, r0_0_99]), ?_⟩
      refine ih0 (m0 - 1) _ (by omega) ?_ ?_ ⟨i + 1, (addMail b (below c4 32).1 (mailDraw (below c4 32).2).1).1, (mailDraw (below c4 32).2).2, by omega, addMail_ok hok, Int.le_trans (addMail_mod ..) (by omega), ?_⟩
      · simp [hU0, hV0, e0_5, r0_3_0, r0_0_99]
      · simp [hU0, hV0, e0_5, r0_3_0, r0_0_99]
      simp [hU0, hV0, e0_5, r0_3_0, r0_0_99, hw]
    · have hwh : IntKind.i64.wrap (1 + (below (setDraw c4).2 3).1) = 1 + (below (setDraw c4).2 3).1 := by
        have := below_in (setDraw c4).2 3
        exact wrap_in (by omega) (by omega)
      simp [hU0, hV0, e0_5, r0_3_0, r0_0_99, hq6, w2]
      refine ⟨trOk_unord (L := [(0, 1), (0, 2), (0, 3), (0, 4), (0, 5), (0, 6), (0, 7), (1, 3), (1, 6), (2, 3), (2, 6), (3, 6), (4, 6), (5, 6), (5, 7), (10, 11), (10, 12), (11, 12), (11, 13), (12, 13)]) (by kernel_rfl) (by simp) (by simp [indepAt, indep, spares, around, aside, pre, isSlc, Tr.feels, Tr.all, moves, bare, opData, isExt, cmpOf, Op.operands, Call.operands, mentL, ment, D.noUndefL, D.noUndef, pureE, hU0, hV0, e0_5, r0_3_0, r0_0_99]), ?_⟩
      refine ih0 (m0 - 1) _ (by omega) ?_ ?_ ⟨i + 1, (setFlags b (setDraw c4).1 (IntKind.i64.wrap (1 + (below (setDraw c4).2 3).1)) (below (below (setDraw c4).2 3).2 32).1 (-1)).1, (below (below (setDraw c4).2 3).2 32).2, by omega, setFlags_ok hok, Int.le_trans (setFlags_mod ..) (by omega), ?_⟩
      · simp [hU0, hV0, e0_5, r0_3_0, r0_0_99]
      · simp [hU0, hV0, e0_5, r0_3_0, r0_0_99]
      simp [hU0, hV0, e0_5, r0_3_0, r0_0_99, hw]
    · simp [hU0, hV0, e0_5, r0_3_0, r0_0_99, hq6, w3]
      refine ⟨trOk_unord (L := [(0, 1), (0, 2), (5, 6), (6, 7)]) (by kernel_rfl) (by simp) (by simp [indepAt, indep, spares, around, aside, pre, isSlc, Tr.feels, Tr.all, moves, bare, opData, isExt, cmpOf, Op.operands, Call.operands, mentL, ment, D.noUndefL, D.noUndef, pureE, hU0, hV0, e0_5, r0_3_0, r0_0_99]), ?_⟩
      refine ih0 (m0 - 1) _ (by omega) ?_ ?_ ⟨i + 1, (expunge b (setDraw c4).1).1, (setDraw c4).2, by omega, expunge_ok hok, Int.le_trans (expunge_mod ..) (by omega), ?_⟩
      · simp [hU0, hV0, e0_5, r0_3_0, r0_0_99]
      · simp [hU0, hV0, e0_5, r0_3_0, r0_0_99]
      simp [hU0, hV0, e0_5, r0_3_0, r0_0_99, hw]
    · simp [hU0, hV0, e0_5, r0_3_0, r0_0_99, hq6]
      refine RB_split ?_ ?_ <;> intro h3
      · simp [hU0, hV0, e0_5, r0_3_0, r0_0_99, w4]
        refine ⟨trOk_unord (L := [(0, 1), (0, 2), (0, 3), (0, 4), (0, 5), (1, 2), (1, 3), (1, 4)]) (by kernel_rfl) (by simp) (by simp [indepAt, indep, spares, around, aside, pre, isSlc, Tr.feels, Tr.all, moves, bare, opData, isExt, cmpOf, Op.operands, Call.operands, mentL, ment, D.noUndefL, D.noUndef, pureE, hU0, hV0, e0_5, r0_3_0, r0_0_99]), ?_⟩
        refine ih0 (m0 - 1) _ (by omega) ?_ ?_ ⟨i + 1, forget b (below (once c4 3).2 (IntKind.i64.wrap (b.mod + 1))).1, (below (once c4 3).2 (IntKind.i64.wrap (b.mod + 1))).2, by omega, forget_ok hok, by rw [forget_mod]; omega, ?_⟩
        · simp [hU0, hV0, e0_5, r0_3_0, r0_0_99]
        · simp [hU0, hV0, e0_5, r0_3_0, r0_0_99]
        simp [hU0, hV0, e0_5, r0_3_0, r0_0_99, hw]
      · simp [hU0, hV0, e0_5, r0_3_0, r0_0_99]
        refine ih0 (m0 - 1) _ (by omega) ?_ ?_ ⟨i + 1, b, (once c4 3).2, by omega, hok, by omega, ?_⟩
        · simp [hU0, hV0, e0_5, r0_3_0, r0_0_99]
        · simp [hU0, hV0, e0_5, r0_3_0, r0_0_99]
        simp [hU0, hV0, e0_5, r0_3_0, r0_0_99, hw]
  · simp [hU0, hV0, e0_5, r0_3_0, r0_0_99]
    exact ⟨(b, c3), ⟨hok, by simp only; omega⟩, rfl⟩
noncomputable def boxDraw (c : Cur) : Box × Cur := (ex_l08Box c).choose
theorem boxDraw_ok (c : Cur) : boxOk (boxDraw c).1 = true := (ex_l08Box c).choose_spec.1.1
theorem boxDraw_mod (c : Cur) : (boxDraw c).1.mod ≤ 19 := (ex_l08Box c).choose_spec.1.2
@[simp] theorem eq_l08Box (c : Cur) : lim E 94 [.pto (encCur c)] = some (encBox false true (boxDraw c).1, [.pto (encCur (boxDraw c).2)]) := (ex_l08Box c).choose_spec.2
end Go.Proofs.YtomeglmblhfafaaGreatDoor
