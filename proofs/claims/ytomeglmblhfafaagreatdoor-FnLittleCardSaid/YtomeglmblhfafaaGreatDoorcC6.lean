/- What changed since (of both), and the draw of a view and of what has become of its box. -/
import Derived.Test.YtomeglmblhfafaaGreatDoorcP6
import Derived.Test.YtomeglmblhfafaaGreatDoorcF1
set_option linter.unusedSectionVars false
set_option linter.all false
set_option linter.unusedVariables false
set_option linter.unusedSimpArgs false
set_option maxRecDepth 100000
namespace Go.Proofs.YtomeglmblhfafaaGreatDoor
open Go.Lft

def changed (b : Box) (since : Int) : List Mail := b.mails.filter fun m => decide (since < m.mod)
theorem changed_next (since : Int) (ms : List Mail) (i : Nat) (h : i < ms.length) : (ms.take (i + 1)).filter (fun m => decide (since < m.mod)) = (ms.take i).filter (fun m => decide (since < m.mod)) ++ (if since < ms[i].mod then [ms[i]] else []) := by
  rw [take_filter _ _ _ h]
  congr 1
  by_cases hc : since < ms[i].mod <;> simp [hc]
theorem eq_sChanged (b : Box) (since : Int) (hl : b.mails.length ≤ 16777216) : lim E 21 [encBox false false b, .int .i64 since] = some (.lst true 108 4 ((changed b since).map encMail), []) := by
  refine lim_run (E := E) rfl Tryz.func21 rfl (by kernel_rfl) (by kernel_rfl) ?_
  simp [Tryz.f21, tmpAt]
  refine loop_fr [1, 2] [(2,0), (2,0)] (fun m st => ∃ (i r : Nat) (ms : List Mail), i + m = b.mails.length ∧ (r = 7 ∨ r = 30) ∧ ms = (b.mails.take i).filter (fun m => decide (since < m.mod)) ∧ st.env 5 = .slc (r,0) [] 0 ms.length ∧ st.rs (r,0) = some ⟨false, .lst true 108 4 (ms.map encMail)⟩ ∧ st.env 6 = .int .i64 i) (b.mails.length) _ ?_ ?_
  · exact ⟨0, 7, [], by simp⟩
  rintro m0 ⟨env, rs⟩ hU0 hV0 ⟨i, r, ms, hi, hr, hms, e3, q3, e0_6⟩ ih0; simp at hU0 hV0 e0_6
  simp at e3 q3
  have hw := wrap_up (show i < 4611686018427387904 by omega)
  have hul : ms.length ≤ i := by rw [hms]; refine Nat.le_trans (List.length_filter_le ..) ?_; simp; omega
  have hb : (ms.length + 1) * 40 ≤ 140737488351232 := by omega
  simp [hU0, hV0, e0_6]
  refine RB_dec ?_ ?_ <;> intro h
  · have hn := changed_next since b.mails i h
    simp [hU0, hV0, e0_6, h, tmpAt]
    refine RB_dec ?_ ?_ <;> intro hc
    · rw [if_pos hc] at hn
      rcases hr with rfl | rfl
      all_goals
        simp [hU0, hV0, e0_6, h, e3, q3, hb, tmpAt]
        repeat (refine And.intro (by first | omega | (simp; omega)) ?_)
        refine ih0 (m0 - 1) _ (by omega) ?_ ?_ ⟨i + 1, 30, ms ++ [b.mails[i]], by omega, by simp, by rw [hms]; exact hn.symm, ?_⟩
        · simp [hU0, hV0, e0_6, h]
        · simp [hU0, hV0, e0_6, h]
        simp [hU0, hV0, e0_6, hw]
    · rw [if_neg hc, List.append_nil] at hn
      rcases hr with rfl | rfl
      · simp [hU0, hV0, e0_6]
        refine ih0 (m0 - 1) _ (by omega) ?_ ?_ ⟨i + 1, 7, ms, by omega, by simp, by rw [hms]; exact hn.symm, ?_⟩
        · simp [hU0, hV0, e0_6, h]
        · simp [hU0, hV0, e0_6, h]
        simp [hU0, hV0, e0_6, hw, e3, q3]
      · simp [hU0, hV0, e0_6]
        refine ih0 (m0 - 1) _ (by omega) ?_ ?_ ⟨i + 1, 30, ms, by omega, by simp, by rw [hms]; exact hn.symm, ?_⟩
        · simp [hU0, hV0, e0_6, h]
        · simp [hU0, hV0, e0_6, h]
        simp [hU0, hV0, e0_6, hw, e3, q3]
  · rw [List.take_of_length_le (by omega)] at hms
    rcases hr with rfl | rfl
    all_goals
      simp [hU0, hV0, e0_6, e3, q3]
      rw [hms]; rfl
set_option maxHeartbeats 4000000 in
theorem ex_l14Pair (c : Cur) : ∃ r : (View × Box) × Cur, (boxOk r.1.2 = true ∧ ∃ n, Later r.1.1 r.1.2 n) ∧ lim E 61 [.pto (encCur c)] = some (.tup [encView true r.1.1, encBox false true r.1.2], [.pto (encCur r.2)]) := by
  refine ex_split ?_
  have hok0 := boxDraw_ok c
  generalize hq0 : boxDraw c = Q at *
  obtain ⟨b0, c0⟩ := Q
  simp at hok0
  have hl0 := boxOk_lens hok0
  have wv := eq_sViewOf b0 (by omega)
  have hv : Later (viewOf b0) b0 b0.next := later_view hok0
  generalize viewOf b0 = v at *
  try simp at wv
  refine lim_ex (E := E) rfl Tryz.func61 rfl (by kernel_rfl) (by kernel_rfl) ?_
  simp [Tryz.f61, tmpAt, hq0, wv]
  refine loop_fr [0, 2, 3, 4, 5] [(2,0), (3,0), (5,0)] (fun m st => ∃ (i : Nat) (b : Box) (c' : Cur), i + m = 7 ∧ boxOk b = true ∧ Later v b b0.next ∧ st.env 6 = .int .i64 i ∧ st.rs (4,0) = some ⟨true, encBox false true b⟩ ∧ st.rs (0,99) = some ⟨true, encCur c'⟩) (7) _ ?_ ?_
  · exact ⟨0, b0, c0, by simp [hok0, hv]⟩
  rintro m0 ⟨env, rs⟩ hU0 hV0 ⟨i, b, c', hi, hok, hlt, e0_6, r0_4_0, r0_0_99⟩ ih0; simp at hU0 hV0 e0_6 r0_4_0 r0_0_99
  have hw := wrap_up (show i < 4611686018427387904 by omega)
  have hb7 := below_in c' 7
  generalize hq : below c' 7 = Q at *
  obtain ⟨x, c3⟩ := Q
  simp at hb7
  have hsz := boxOk_sz hok
  simp [hU0, hV0, e0_6, r0_4_0, r0_0_99, hq]
  refine RB_dec ?_ ?_ <;> intro h
  · have hm0 : i < 7 := by omega
    have hb4 := below_in c3 4
    generalize hq4 : below c3 4 = Q at *
    obtain ⟨k, c4⟩ := Q
    simp at hb4
    have hk : k = 0 ∨ k = 1 ∨ k = 2 ∨ k = 3 := by omega
    have w1 := eq_sAddMail b (below c4 32).1 (mailDraw (below c4 32).2).1 (by have := mailDraw_len (below c4 32).2; omega)
    try simp at w1
    have w2 : ∀ (how bits : Int), _ := fun how bits => eq_sSetFlags b (setDraw c4).1 how bits (-1) (by omega) (by have := setDraw_len c4; omega)
    try simp at w2
    have w3 := eq_sExpunge b [⟨1, 50⟩] (by omega) (by simp)
    try simp at w3
    have hwh : IntKind.i64.wrap (1 + (below (setDraw c4).2 3).1) = 1 + (below (setDraw c4).2 3).1 := by
      have := below_in (setDraw c4).2 3
      exact wrap_in (by omega) (by omega)
    rcases hk with rfl | rfl | rfl | rfl
    · simp [hU0, hV0, e0_6, r0_4_0, r0_0_99, hq4, w1]
      refine ⟨trOk_unord (L := [(0, 1), (0, 2), (0, 3), (0, 4), (1, 3), (2, 3), (7, 8), (8, 9)]) (by kernel_rfl) (by simp) (by simp [indepAt, indep, spares, around, aside, pre, isSlc, Tr.feels, Tr.all, moves, bare, opData, isExt, cmpOf, Op.operands, Call.operands, mentL, ment, D.noUndefL, D.noUndef, pureE, hU0, hV0, e0_6, r0_4_0, r0_0_99]), ?_⟩
      refine ih0 (m0 - 1) _ (by omega) ?_ ?_ ⟨i + 1, (addMail b (below c4 32).1 (mailDraw (below c4 32).2).1).1, (mailDraw (below c4 32).2).2, by omega, addMail_ok hok, later_add hlt _ _, ?_⟩
      · simp [hU0, hV0, e0_6, r0_4_0, r0_0_99]
      · simp [hU0, hV0, e0_6, r0_4_0, r0_0_99]
      simp [hU0, hV0, e0_6, r0_4_0, r0_0_99, hw]
    · simp [hU0, hV0, e0_6, r0_4_0, r0_0_99, hq4, w3]
      refine ih0 (m0 - 1) _ (by omega) ?_ ?_ ⟨i + 1, (expunge b [⟨1, 50⟩]).1, c4, by omega, expunge_ok hok, later_exp hok hlt _, ?_⟩
      · simp [hU0, hV0, e0_6, r0_4_0, r0_0_99]
      · simp [hU0, hV0, e0_6, r0_4_0, r0_0_99]
      simp [hU0, hV0, e0_6, r0_4_0, r0_0_99, hw]
    · simp [hU0, hV0, e0_6, r0_4_0, r0_0_99, hq4, w2]
      refine ⟨trOk_unord (L := [(0, 1), (0, 2), (0, 3), (0, 4), (0, 5), (0, 6), (0, 7), (1, 3), (1, 6), (2, 3), (2, 6), (3, 6), (4, 6), (5, 6), (5, 7), (10, 11), (10, 12), (11, 12), (11, 13), (12, 13)]) (by kernel_rfl) (by simp) (by simp [indepAt, indep, spares, around, aside, pre, isSlc, Tr.feels, Tr.all, moves, bare, opData, isExt, cmpOf, Op.operands, Call.operands, mentL, ment, D.noUndefL, D.noUndef, pureE, hU0, hV0, e0_6, r0_4_0, r0_0_99]), ?_⟩
      refine ih0 (m0 - 1) _ (by omega) ?_ ?_ ⟨i + 1, (setFlags b (setDraw c4).1 (IntKind.i64.wrap (1 + (below (setDraw c4).2 3).1)) (below (below (setDraw c4).2 3).2 32).1 (-1)).1, (below (below (setDraw c4).2 3).2 32).2, by omega, setFlags_ok hok, later_flags hlt _ _ _ _, ?_⟩
      · simp [hU0, hV0, e0_6, r0_4_0, r0_0_99]
      · simp [hU0, hV0, e0_6, r0_4_0, r0_0_99]
      simp [hU0, hV0, e0_6, r0_4_0, r0_0_99, hw]
    · simp [hU0, hV0, e0_6, r0_4_0, r0_0_99, hq4, w2]
      refine ⟨trOk_unord (L := [(0, 1), (0, 2), (0, 3), (0, 4), (0, 5), (0, 6), (0, 7), (1, 3), (1, 6), (2, 3), (2, 6), (3, 6), (4, 6), (5, 6), (5, 7), (10, 11), (10, 12), (11, 12), (11, 13), (12, 13)]) (by kernel_rfl) (by simp) (by simp [indepAt, indep, spares, around, aside, pre, isSlc, Tr.feels, Tr.all, moves, bare, opData, isExt, cmpOf, Op.operands, Call.operands, mentL, ment, D.noUndefL, D.noUndef, pureE, hU0, hV0, e0_6, r0_4_0, r0_0_99]), ?_⟩
      refine ih0 (m0 - 1) _ (by omega) ?_ ?_ ⟨i + 1, (setFlags b (setDraw c4).1 (IntKind.i64.wrap (1 + (below (setDraw c4).2 3).1)) (below (below (setDraw c4).2 3).2 32).1 (-1)).1, (below (below (setDraw c4).2 3).2 32).2, by omega, setFlags_ok hok, later_flags hlt _ _ _ _, ?_⟩
      · simp [hU0, hV0, e0_6, r0_4_0, r0_0_99]
      · simp [hU0, hV0, e0_6, r0_4_0, r0_0_99]
      simp [hU0, hV0, e0_6, r0_4_0, r0_0_99, hw]
  · simp [hU0, hV0, e0_6, r0_4_0, r0_0_99]
    refine ⟨trOk_unord (L := [(0, 1), (1, 2)]) (by kernel_rfl) (by simp) (by simp [indepAt, indep, spares, around, aside, pre, isSlc, Tr.feels, Tr.all, moves, bare, opData, isExt, cmpOf, Op.operands, Call.operands, mentL, ment, D.noUndefL, D.noUndef, pureE, hU0, hV0, e0_6, r0_4_0, r0_0_99]), ?_⟩
    exact ⟨((v, b), c3), ⟨hok, _, hlt⟩, by simp⟩
noncomputable def pairDraw (c : Cur) : (View × Box) × Cur := (ex_l14Pair c).choose
theorem pairDraw_ok (c : Cur) : boxOk (pairDraw c).1.2 = true ∧ ∃ n, Later (pairDraw c).1.1 (pairDraw c).1.2 n := (ex_l14Pair c).choose_spec.1
theorem eq_l14Pair (c : Cur) : lim E 61 [.pto (encCur c)] = some (.tup [encView true (pairDraw c).1.1, encBox false true (pairDraw c).1.2], [.pto (encCur (pairDraw c).2)]) := (ex_l14Pair c).choose_spec.2
theorem ex_DrawLater (code : S) (hc : code.length ≤ 1048576) : ∃ (v : View) (b : Box) (n : Int), boxOk b = true ∧ Later v b n ∧ lim E 18 [.lst false 5 1 (ofBytes code)] = some (.tup [encView true v, encBox false true b], []) := by
  have w := eq_l01New code hc
  obtain ⟨h1, n, h2⟩ := pairDraw_ok (newCur code hc)
  have w2 := eq_l14Pair (newCur code hc)
  generalize pairDraw (newCur code hc) = Q at *
  obtain ⟨⟨v, b⟩, c⟩ := Q
  refine ⟨v, b, n, h1, h2, ?_⟩
  try simp at w2
  refine lim_run (E := E) rfl Tryz.func18 rfl (by kernel_rfl) (by kernel_rfl) ?_
  simp [Tryz.f18, tmpAt, w, w2]
end Go.Proofs.YtomeglmblhfafaaGreatDoor
