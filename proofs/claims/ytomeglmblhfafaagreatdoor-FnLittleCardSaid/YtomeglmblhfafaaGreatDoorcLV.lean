/- Drawn boxes have a small number of their own. -/
import Derived.Test.YtomeglmblhfafaaGreatDoorcC6
set_option linter.unusedSectionVars false
set_option linter.all false
set_option linter.unusedVariables false
set_option linter.unusedSimpArgs false
set_option maxRecDepth 100000
namespace Go.Proofs.YtomeglmblhfafaaGreatDoor
open Go.Lft

theorem addMail_valid (b : Box) (f : Int) (t : S) : (addMail b f t).1.valid = b.valid := by
  unfold addMail; split <;> rfl
theorem setFlags_valid (b : Box) (s : List Range) (how bits since : Int) : (setFlags b s how bits since).1.valid = b.valid := by
  unfold setFlags; split <;> rfl
theorem expunge_valid (b : Box) (s : List Range) : (expunge b s).1.valid = b.valid := by
  unfold expunge; split <;> rfl
theorem forget_valid (b : Box) (u : Int) : (forget b u).valid = b.valid := by
  unfold forget; split <;> rfl
set_option maxHeartbeats 4000000 in
theorem ex_l08BoxV (c : Cur) : ∃ r : Box × Cur, (boxOk r.1 = true ∧ r.1.valid ≤ 5) ∧ lim E 94 [.pto (encCur c)] = some (encBox false true r.1, [.pto (encCur r.2)]) := by
  refine ex_split ?_
  refine lim_ex (E := E) rfl Tryz.func94 rfl (by kernel_rfl) (by kernel_rfl) ?_
  simp [Tryz.f94, tmpAt]
  have hp := pick_mem c [[105, 110, 98, 111, 120], [119, 111, 114, 107], [111, 108, 100]] (by simp)
  have hb := below_in (pick c [[105, 110, 98, 111, 120], [119, 111, 114, 107], [111, 108, 100]]).2 5
  generalize pick c [[105, 110, 98, 111, 120], [119, 111, 114, 107], [111, 108, 100]] = P at *
  obtain ⟨nm, c1⟩ := P
  simp at hp hb
  have hnm : boxName nm = true ∧ nm.length ≤ 8 := by rcases hp with rfl | rfl | rfl <;> decide
  generalize below c1 5 = Q at *
  obtain ⟨v, c2⟩ := Q
  simp at hb
  have hwv : IntKind.i64.wrap (1 + v) = 1 + v := wrap_in (by omega) (by omega)
  have hbn : boxOk (boxNew nm (1 + v)) = true := boxNew_ok hnm.1 (by omega) (by omega)
  have wb := eq_sBoxNew nm (1 + v) (by omega)
  have hR : boxNewR nm (1 + v) = boxNew nm (1 + v) := by unfold boxNewR; rw [if_pos hbn]
  rw [hR, hbn] at wb
  have hb0 : (boxNew nm (1 + v)).valid ≤ 5 := by show 1 + v ≤ 5; omega
  generalize boxNew nm (1 + v) = b0 at *
  try simp at wb
  simp [hwv, wb]
  refine loop_fr [0, 2, 3] [(2,0)] (fun m st => ∃ (i : Nat) (b : Box) (c' : Cur), i + m = 18 ∧ boxOk b = true ∧ b.valid ≤ 5 ∧ st.env 5 = .int .i64 i ∧ st.rs (3,0) = some ⟨true, encBox false true b⟩ ∧ st.rs (0,99) = some ⟨true, encCur c'⟩) (18) _ ?_ ?_
  · exact ⟨0, b0, c2, by simp [hbn, hb0]⟩
  rintro m0 ⟨env, rs⟩ hU0 hV0 ⟨i, b, c', hi, hok, hmd, e0_5, r0_3_0, r0_0_99⟩ ih0; simp at hU0 hV0 e0_5 r0_3_0 r0_0_99
  have hw := wrap_up (show i < 4611686018427387904 by omega)
  have hb16 := below_in c' 16
  generalize hq : below c' 16 = Q at *
  obtain ⟨x, c3⟩ := Q
  simp at hb16
  have hwx : IntKind.i64.wrap (2 + x) = 2 + x := wrap_in (by omega) (by omega)
  have hsz := boxOk_sz hok
  simp [hU0, hV0, e0_5, r0_3_0, r0_0_99, hq, hwx]
  refine RB_dec ?_ ?_ <;> intro h
  · have hm0 : i < 18 := by omega
    have hb6 := below_in c3 6
    generalize hq6 : below c3 6 = Q at *
    obtain ⟨k, c4⟩ := Q
    simp at hb6
    have hk : k = 0 ∨ k = 1 ∨ k = 2 ∨ k = 3 ∨ k = 4 ∨ k = 5 := by omega
    have w1 := eq_sAddMail b (below c4 32).1 (mailDraw (below c4 32).2).1 (by have := mailDraw_len (below c4 32).2; omega)
    try simp at w1
    have w2 : ∀ (how bits : Int), _ := fun how bits => eq_sSetFlags b (setDraw c4).1 how bits (-1) (by omega) (by have := setDraw_len c4; omega)
    try simp at w2
    have w3 := eq_sExpunge b (setDraw c4).1 (by omega) (by have := setDraw_len c4; omega)
    try simp at w3
    have w4 : ∀ u : Int, _ := fun u => eq_sForgetTombs b u (by omega)
    try simp at w4
    rcases hk with rfl | rfl | rfl | rfl | rfl | rfl
    · simp [hU0, hV0, e0_5, r0_3_0, r0_0_99, hq6, w1]
      refine ⟨trOk_unord (L := [(0, 1), (0, 2), (0, 3), (0, 4), (1, 3), (2, 3), (7, 8), (8, 9)]) (by kernel_rfl) (by simp) (by simp [indepAt, indep, spares, around, aside, pre, isSlc, Tr.feels, Tr.all, moves, bare, opData, isExt, cmpOf, Op.operands, Call.operands, mentL, ment, D.noUndefL, D.noUndef, pureE, hU0, hV0, e0_5, r0_3_0, r0_0_99]), ?_⟩
      refine ih0 (m0 - 1) _ (by omega) ?_ ?_ ⟨i + 1, (addMail b (below c4 32).1 (mailDraw (below c4 32).2).1).1, (mailDraw (below c4 32).2).2, by omega, addMail_ok hok, by rw [addMail_valid]; exact hmd, ?_⟩
      · simp [hU0, hV0, e0_5, r0_3_0, r0_0_99]
      · simp [hU0, hV0, e0_5, r0_3_0, r0_0_99]
      simp [hU0, hV0, e0_5, r0_3_0, r0_0_99, hw]
    · simp [hU0, hV0, e0_5, r0_3_0, r0_0_99, hq6, w1]
      refine ⟨trOk_unord (L := [(0, 1), (0, 2), (0, 3), (0, 4), (1, 3), (2, 3), (7, 8), (8, 9)]) (by kernel_rfl) (by simp) (by simp [indepAt, indep, spares, around, aside, pre, isSlc, Tr.feels, Tr.all, moves, bare, opData, isExt, cmpOf, Op.operands, Call.operands, mentL, ment, D.noUndefL, D.noUndef, pureE, hU0, hV0, e0_5, r0_3_0, r0_0_99]), ?_⟩
      refine ih0 (m0 - 1) _ (by omega) ?_ ?_ ⟨i + 1, (addMail b (below c4 32).1 (mailDraw (below c4 32).2).1).1, (mailDraw (below c4 32).2).2, by omega, addMail_ok hok, by rw [addMail_valid]; exact hmd, ?_⟩
      · simp [hU0, hV0, e0_5, r0_3_0, r0_0_99]
      · simp [hU0, hV0, e0_5, r0_3_0, r0_0_99]
      simp [hU0, hV0, e0_5, r0_3_0, r0_0_99, hw]
    · simp [hU0, hV0, e0_5, r0_3_0, r0_0_99, hq6, w1]
      refine ⟨trOk_unord (L := [(0, 1), (0, 2), (0, 3), (0, 4), (1, 3), (2, 3), (7, 8), (8, 9)]) (by kernel_rfl) (by simp) (by simp [indepAt, indep, spares, around, aside, pre, isSlc, Tr.feels, Tr.all, moves, bare, opData, isExt, cmpOf, Op.operands, Call.operands, mentL, ment, D.noUndefL, D.noUndef, pureE, hU0, hV0, e0_5, r0_3_0, r0_0_99]), ?_⟩
      refine ih0 (m0 - 1) _ (by omega) ?_ ?_ ⟨i + 1, (addMail b (below c4 32).1 (mailDraw (below c4 32).2).1).1, (mailDraw (below c4 32).2).2, by omega, addMail_ok hok, by rw [addMail_valid]; exact hmd, ?_⟩
      · simp [hU0, hV0, e0_5, r0_3_0, r0_0_99]
      · simp [hU0, hV0, e0_5, r0_3_0, r0_0_99]
      simp [hU0, hV0, e0_5, r0_3_0, r0_0_99, hw]
    · have hwh : IntKind.i64.wrap (1 + (below (setDraw c4).2 3).1) = 1 + (below (setDraw c4).2 3).1 := by
        have := below_in (setDraw c4).2 3
        exact wrap_in (by omega) (by omega)
      simp [hU0, hV0, e0_5, r0_3_0, r0_0_99, hq6, w2]
      refine ⟨trOk_unord (L := [(0, 1), (0, 2), (0, 3), (0, 4), (0, 5), (0, 6), (0, 7), (1, 3), (1, 6), (2, 3), (2, 6), (3, 6), (4, 6), (5, 6), (5, 7), (10, 11), (10, 12), (11, 12), (11, 13), (12, 13)]) (by kernel_rfl) (by simp) (by simp [indepAt, indep, spares, around, aside, pre, isSlc, Tr.feels, Tr.all, moves, bare, opData, isExt, cmpOf, Op.operands, Call.operands, mentL, ment, D.noUndefL, D.noUndef, pureE, hU0, hV0, e0_5, r0_3_0, r0_0_99]), ?_⟩
      refine ih0 (m0 - 1) _ (by omega) ?_ ?_ ⟨i + 1, (setFlags b (setDraw c4).1 (IntKind.i64.wrap (1 + (below (setDraw c4).2 3).1)) (below (below (setDraw c4).2 3).2 32).1 (-1)).1, (below (below (setDraw c4).2 3).2 32).2, by omega, setFlags_ok hok, by rw [setFlags_valid]; exact hmd, ?_⟩
      · simp [hU0, hV0, e0_5, r0_3_0, r0_0_99]
      · simp [hU0, hV0, e0_5, r0_3_0, r0_0_99]
      simp [hU0, hV0, e0_5, r0_3_0, r0_0_99, hw]
    · simp [hU0, hV0, e0_5, r0_3_0, r0_0_99, hq6, w3]
      refine ⟨trOk_unord (L := [(0, 1), (0, 2), (5, 6), (6, 7)]) (by kernel_rfl) (by simp) (by simp [indepAt, indep, spares, around, aside, pre, isSlc, Tr.feels, Tr.all, moves, bare, opData, isExt, cmpOf, Op.operands, Call.operands, mentL, ment, D.noUndefL, D.noUndef, pureE, hU0, hV0, e0_5, r0_3_0, r0_0_99]), ?_⟩
      refine ih0 (m0 - 1) _ (by omega) ?_ ?_ ⟨i + 1, (expunge b (setDraw c4).1).1, (setDraw c4).2, by omega, expunge_ok hok, by rw [expunge_valid]; exact hmd, ?_⟩
      · simp [hU0, hV0, e0_5, r0_3_0, r0_0_99]
      · simp [hU0, hV0, e0_5, r0_3_0, r0_0_99]
      simp [hU0, hV0, e0_5, r0_3_0, r0_0_99, hw]
    · simp [hU0, hV0, e0_5, r0_3_0, r0_0_99, hq6]
      refine RB_split ?_ ?_ <;> intro h3
      · simp [hU0, hV0, e0_5, r0_3_0, r0_0_99, w4]
        refine ⟨trOk_unord (L := [(0, 1), (0, 2), (0, 3), (0, 4), (0, 5), (1, 2), (1, 3), (1, 4)]) (by kernel_rfl) (by simp) (by simp [indepAt, indep, spares, around, aside, pre, isSlc, Tr.feels, Tr.all, moves, bare, opData, isExt, cmpOf, Op.operands, Call.operands, mentL, ment, D.noUndefL, D.noUndef, pureE, hU0, hV0, e0_5, r0_3_0, r0_0_99]), ?_⟩
        refine ih0 (m0 - 1) _ (by omega) ?_ ?_ ⟨i + 1, forget b (below (once c4 3).2 (IntKind.i64.wrap (b.mod + 1))).1, (below (once c4 3).2 (IntKind.i64.wrap (b.mod + 1))).2, by omega, forget_ok hok, by rw [forget_valid]; exact hmd, ?_⟩
        · simp [hU0, hV0, e0_5, r0_3_0, r0_0_99]
        · simp [hU0, hV0, e0_5, r0_3_0, r0_0_99]
        simp [hU0, hV0, e0_5, r0_3_0, r0_0_99, hw]
      · simp [hU0, hV0, e0_5, r0_3_0, r0_0_99]
        refine ih0 (m0 - 1) _ (by omega) ?_ ?_ ⟨i + 1, b, (once c4 3).2, by omega, hok, hmd, ?_⟩
        · simp [hU0, hV0, e0_5, r0_3_0, r0_0_99]
        · simp [hU0, hV0, e0_5, r0_3_0, r0_0_99]
        simp [hU0, hV0, e0_5, r0_3_0, r0_0_99, hw]
  · simp [hU0, hV0, e0_5, r0_3_0, r0_0_99]
    exact ⟨(b, c3), ⟨hok, hmd⟩, rfl⟩
theorem boxDraw_valid (c : Cur) : (boxDraw c).1.valid ≤ 5 := by
  obtain ⟨r, ⟨_, h⟩, w⟩ := ex_l08BoxV c
  have w2 := eq_l08Box c
  rw [w2] at w
  have := (Prod.mk.inj (Option.some.inj w)).1
  simp at this
  rw [this.2.1]
  exact h
set_option maxHeartbeats 4000000 in
theorem ex_l14PairV (c : Cur) : ∃ r : (View × Box) × Cur, (boxOk r.1.2 = true ∧ r.1.1.valid ≤ 5 ∧ ∃ n, Later r.1.1 r.1.2 n) ∧ lim E 61 [.pto (encCur c)] = some (.tup [encView true r.1.1, encBox false true r.1.2], [.pto (encCur r.2)]) := by
  refine ex_split ?_
  have hok0 := boxDraw_ok c
  have hbv := boxDraw_valid c
  generalize hq0 : boxDraw c = Q at *
  obtain ⟨b0, c0⟩ := Q
  simp at hok0 hbv
  have hvv : (viewOf b0).valid ≤ 5 := hbv
  have hl0 := boxOk_lens hok0
  have wv := eq_sViewOf b0 (by omega)
  have hv : Later (viewOf b0) b0 b0.next := later_view hok0
  generalize viewOf b0 = v at *
  try simp at wv
  refine lim_ex (E := E) rfl Tryz.func61 rfl (by kernel_rfl) (by kernel_rfl) ?_
  simp [Tryz.f61, tmpAt, hq0, wv]
  refine loop_fr [0, 2, 3, 4, 5] [(2,0), (3,0), (5,0)] (fun m st => ∃ (i : Nat) (b : Box) (c' : Cur), i + m = 7 ∧ boxOk b = true ∧ Later v b b0.next ∧ st.env 6 = .int .i64 i ∧ st.rs (4,0) = some ⟨true, encBox false true b⟩ ∧ st.rs (0,99) = some ⟨true, encCur c'⟩) (7) _ ?_ ?_
  · exact ⟨0, b0, c0, by simp [hok0, hv]⟩
  rintro m0 ⟨env, rs⟩ hU0 hV0 ⟨i, b, c', hi, hok, hlt, e0_6, r0_4_0, r0_0_99⟩ ih0; simp at hU0 hV0 e0_6 r0_4_0 r0_0_99
  have hw := wrap_up (show i < 4611686018427387904 by omega)
  have hb7 := below_in c' 7
  generalize hq : below c' 7 = Q at *
  obtain ⟨x, c3⟩ := Q
  simp at hb7
  have hsz := boxOk_sz hok
  simp [hU0, hV0, e0_6, r0_4_0, r0_0_99, hq]
  refine RB_dec ?_ ?_ <;> intro h
  · have hm0 : i < 7 := by omega
    have hb4 := below_in c3 4
    generalize hq4 : below c3 4 = Q at *
    obtain ⟨k, c4⟩ := Q
    simp at hb4
    have hk : k = 0 ∨ k = 1 ∨ k = 2 ∨ k = 3 := by omega
    have w1 := eq_sAddMail b (below c4 32).1 (mailDraw (below c4 32).2).1 (by have := mailDraw_len (below c4 32).2; omega)
    try simp at w1
    have w2 : ∀ (how bits : Int), _ := fun how bits => eq_sSetFlags b (setDraw c4).1 how bits (-1) (by omega) (by have := setDraw_len c4; omega)
    try simp at w2
    have w3 := eq_sExpunge b [⟨1, 50⟩] (by omega) (by simp)
    try simp at w3
    have hwh : IntKind.i64.wrap (1 + (below (setDraw c4).2 3).1) = 1 + (below (setDraw c4).2 3).1 := by
      have := below_in (setDraw c4).2 3
      exact wrap_in (by omega) (by omega)
    rcases hk with rfl | rfl | rfl | rfl
    · simp [hU0, hV0, e0_6, r0_4_0, r0_0_99, hq4, w1]
      refine ⟨trOk_unord (L := [(0, 1), (0, 2), (0, 3), (0, 4), (1, 3), (2, 3), (7, 8), (8, 9)]) (by kernel_rfl) (by simp) (by simp [indepAt, indep, spares, around, aside, pre, isSlc, Tr.feels, Tr.all, moves, bare, opData, isExt, cmpOf, Op.operands, Call.operands, mentL, ment, D.noUndefL, D.noUndef, pureE, hU0, hV0, e0_6, r0_4_0, r0_0_99]), ?_⟩
      refine ih0 (m0 - 1) _ (by omega) ?_ ?_ ⟨i + 1, (addMail b (below c4 32).1 (mailDraw (below c4 32).2).1).1, (mailDraw (below c4 32).2).2, by omega, addMail_ok hok, later_add hlt _ _, ?_⟩
      · simp [hU0, hV0, e0_6, r0_4_0, r0_0_99]
      · simp [hU0, hV0, e0_6, r0_4_0, r0_0_99]
      simp [hU0, hV0, e0_6, r0_4_0, r0_0_99, hw]
    · simp [hU0, hV0, e0_6, r0_4_0, r0_0_99, hq4, w3]
      refine ih0 (m0 - 1) _ (by omega) ?_ ?_ ⟨i + 1, (expunge b [⟨1, 50⟩]).1, c4, by omega, expunge_ok hok, later_exp hok hlt _, ?_⟩
      · simp [hU0, hV0, e0_6, r0_4_0, r0_0_99]
      · simp [hU0, hV0, e0_6, r0_4_0, r0_0_99]
      simp [hU0, hV0, e0_6, r0_4_0, r0_0_99, hw]
    · simp [hU0, hV0, e0_6, r0_4_0, r0_0_99, hq4, w2]
      refine ⟨trOk_unord (L := [(0, 1), (0, 2), (0, 3), (0, 4), (0, 5), (0, 6), (0, 7), (1, 3), (1, 6), (2, 3), (2, 6), (3, 6), (4, 6), (5, 6), (5, 7), (10, 11), (10, 12), (11, 12), (11, 13), (12, 13)]) (by kernel_rfl) (by simp) (by simp [indepAt, indep, spares, around, aside, pre, isSlc, Tr.feels, Tr.all, moves, bare, opData, isExt, cmpOf, Op.operands, Call.operands, mentL, ment, D.noUndefL, D.noUndef, pureE, hU0, hV0, e0_6, r0_4_0, r0_0_99]), ?_⟩
      refine ih0 (m0 - 1) _ (by omega) ?_ ?_ ⟨i + 1, (setFlags b (setDraw c4).1 (IntKind.i64.wrap (1 + (below (setDraw c4).2 3).1)) (below (below (setDraw c4).2 3).2 32).1 (-1)).1, (below (below (setDraw c4).2 3).2 32).2, by omega, setFlags_ok hok, later_flags hlt _ _ _ _, ?_⟩
      · simp [hU0, hV0, e0_6, r0_4_0, r0_0_99]
      · simp [hU0, hV0, e0_6, r0_4_0, r0_0_99]
      simp [hU0, hV0, e0_6, r0_4_0, r0_0_99, hw]
    · simp [hU0, hV0, e0_6, r0_4_0, r0_0_99, hq4, w2]
      refine ⟨trOk_unord (L := [(0, 1), (0, 2), (0, 3), (0, 4), (0, 5), (0, 6), (0, 7), (1, 3), (1, 6), (2, 3), (2, 6), (3, 6), (4, 6), (5, 6), (5, 7), (10, 11), (10, 12), (11, 12), (11, 13), (12, 13)]) (by kernel_rfl) (by simp) (by simp [indepAt, indep, spares, around, aside, pre, isSlc, Tr.feels, Tr.all, moves, bare, opData, isExt, cmpOf, Op.operands, Call.operands, mentL, ment, D.noUndefL, D.noUndef, pureE, hU0, hV0, e0_6, r0_4_0, r0_0_99]), ?_⟩
      refine ih0 (m0 - 1) _ (by omega) ?_ ?_ ⟨i + 1, (setFlags b (setDraw c4).1 (IntKind.i64.wrap (1 + (below (setDraw c4).2 3).1)) (below (below (setDraw c4).2 3).2 32).1 (-1)).1, (below (below (setDraw c4).2 3).2 32).2, by omega, setFlags_ok hok, later_flags hlt _ _ _ _, ?_⟩
      · simp [hU0, hV0, e0_6, r0_4_0, r0_0_99]
      · simp [hU0, hV0, e0_6, r0_4_0, r0_0_99]
      simp [hU0, hV0, e0_6, r0_4_0, r0_0_99, hw]
  · simp [hU0, hV0, e0_6, r0_4_0, r0_0_99]
    refine ⟨trOk_unord (L := [(0, 1), (1, 2)]) (by kernel_rfl) (by simp) (by simp [indepAt, indep, spares, around, aside, pre, isSlc, Tr.feels, Tr.all, moves, bare, opData, isExt, cmpOf, Op.operands, Call.operands, mentL, ment, D.noUndefL, D.noUndef, pureE, hU0, hV0, e0_6, r0_4_0, r0_0_99]), ?_⟩
    exact ⟨((v, b), c3), ⟨hok, hvv, _, hlt⟩, by simp⟩
theorem ex_DrawLaterV (code : S) (hc : code.length ≤ 1048576) : ∃ (v : View) (b : Box) (n : Int), boxOk b = true ∧ v.valid ≤ 5 ∧ Later v b n ∧ lim E 18 [.lst false 5 1 (ofBytes code)] = some (.tup [encView true v, encBox false true b], []) := by
  have w := eq_l01New code hc
  obtain ⟨Q, ⟨h1, h3, n, h2⟩, w2⟩ := ex_l14PairV (newCur code hc)
  obtain ⟨⟨v, b⟩, c⟩ := Q
  refine ⟨v, b, n, h1, h3, h2, ?_⟩
  try simp at w2
  refine lim_run (E := E) rfl Tryz.func18 rfl (by kernel_rfl) (by kernel_rfl) ?_
  simp [Tryz.f18, tmpAt, w, w2]
end Go.Proofs.YtomeglmblhfafaaGreatDoor
