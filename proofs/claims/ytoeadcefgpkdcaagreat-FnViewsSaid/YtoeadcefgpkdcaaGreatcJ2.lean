/- The set of the Uids at places: of both. -/
import Derived.Test.YtoeadcefgpkdcaaGreatcJ1
import Derived.Test.YtoeadcefgpkdcaaGreatcP10
import Derived.Test.YtoeadcefgpkdcaaGreatcV1
set_option linter.unusedSectionVars false
set_option linter.all false
set_option linter.unusedVariables false
set_option linter.unusedSimpArgs false
set_option maxRecDepth 100000
namespace Go.Proofs.YtoeadcefgpkdcaaGreat
open Go.Lft

theorem eq_setOfUids (us : List Int) (hl : us.length ≤ 16777216) (hb : ∀ x ∈ us, -1000000 ≤ x ∧ x ≤ 1000000) : lim E 34 [.lst false 3 1 (us.map (.int .i64))] = some (.tup [.lst true 44 2 ((setOfL (asc us)).map encRange), .bool (setOk (setOfL (asc us)))], []) := by
  have w1 := eq_copyInts us hl
  have w2 := eq_Sort us hl
  have w3 := eq_Compact (sortL us) (by rw [sortL_len]; exact hl)
  have hal := asc_len us
  have w4 := eq_setOfListB (asc us) (by omega) (fun x hx => hb x ((asc_mem us x).1 hx))
  have ha : Go.Lib.compact (sortL us) = asc us := rfl
  rw [ha] at w3
  have hsl := sortL_len us
  refine lim_run (E := E) rfl Tryz.func34 rfl (by kernel_rfl) (by kernel_rfl) ?_
  simp [Tryz.f34, tmpAt, w1, w2, w3, w4, hsl]
theorem picked_all (s : List Range) (us : List Int) (i : Nat) : ∀ u ∈ picked s (us.take i), u ∈ picked s us := by
  intro u hu
  unfold picked at *
  obtain ⟨p, hp, rfl⟩ := List.mem_map.1 hu
  refine List.mem_map.2 ⟨p, ?_, rfl⟩
  rw [List.mem_filter] at hp ⊢
  refine ⟨?_, hp.2⟩
  have : us.zipIdx = (us.take i).zipIdx ++ (us.drop i).zipIdx (us.take i).length := by
    conv => lhs; rw [← List.take_append_drop i us]
    rw [List.zipIdx_append]; simp
  rw [this]
  exact List.mem_append.2 (.inl hp.1)
theorem uidSet_no {v : View} {s : List Range} (h : setOk s = false) : uidSet v s = ([], false) := by unfold uidSet; rw [if_neg (fun hc => by rw [h] at hc; cases hc.1)]
theorem uidSet_bad {v : View} {s : List Range} (h : fineU (picked s v.uids) = false) : uidSet v s = ([], false) := by unfold uidSet; rw [if_neg (fun hc => by rw [h] at hc; cases hc.2)]
theorem uidSet_fine {v : View} {s : List Range} (h : setOk s = true) (h2 : fineU (picked s v.uids) = true) : uidSet v s = (sAdds (picked s v.uids), true) := by unfold uidSet; rw [if_pos ⟨h, h2⟩]
theorem eq_UidSet (v : View) (s : List Range) (hl : v.uids.length ≤ 40) (hb : ∀ u ∈ v.uids, -1000000 ≤ u ∧ u ≤ 1000000) (hs : s.length ≤ 1048576) : lim E 10 [encView false v, .lst false 44 2 (s.map encRange)] = some (.tup [.lst true 44 2 ((uidSet v s).1.map encRange), .bool (uidSet v s).2], []) := by
  have w1 := eq_SetOk s (by omega)
  have w2 : ∀ n : Int, _ := fun n => eq_SetHas s n (by omega)
  have hpl := picked_len s v.uids
  have w3 := eq_setOfUids (picked s v.uids) (by omega) (fun u hu => hb u (picked_mem hu))
  have hend : uidSet v s = if setOk s = true then (if setOk (setOfL (asc (picked s v.uids))) = true then (setOfL (asc (picked s v.uids)), true) else ([], false)) else ([], false) := by
    cases ho : setOk s
    · rw [uidSet_no ho]; rfl
    · simp only [if_true]
      cases hf : fineU (picked s v.uids)
      · rw [uidSet_bad hf]
        have hn : ∃ u ∈ picked s v.uids, ¬ (1 ≤ u ∧ u ≤ 9999) := by
          apply Classical.byContradiction
          intro hc
          have : fineU (picked s v.uids) = true := (fineU_iff _).2 fun u hu => Classical.byContradiction fun h2 => hc ⟨u, hu, h2⟩
          rw [hf] at this; cases this
        obtain ⟨u, hu, h2⟩ := hn
        rw [setOfL_bad (asc_up _) ((asc_mem _ u).2 hu) h2]; rfl
      · rw [uidSet_fine ho hf]
        have h1 := (fineU_iff _).1 hf
        rw [← sAdds_asc _ h1 (by omega), (sAdds_right h1 (by omega)).1]; rfl
  rw [hend]
  clear hend
  cases ho : setOk s
  · rw [ho] at w1
    refine lim_run (E := E) rfl Tryz.func10 rfl (by kernel_rfl) (by kernel_rfl) ?_
    simp [Tryz.f10, tmpAt, w1]
  · rw [ho] at w1
    refine lim_run (E := E) rfl Tryz.func10 rfl (by kernel_rfl) (by kernel_rfl) ?_
    simp [Tryz.f10, tmpAt, w1]
    refine loop_fr [1, 16, 17] [] (fun m st => ∃ (i r : Nat) (us : List Int), i + m = v.uids.length ∧ (r = 14 ∨ r = 30) ∧ us = picked s (v.uids.take i) ∧ st.env 6 = .slc (r,0) [] 0 us.length ∧ st.rs (r,0) = some ⟨false, .lst true 3 1 (us.map (.int .i64))⟩ ∧ st.env 18 = .int .i64 i) (v.uids.length) _ ?_ ?_
    · exact ⟨0, 14, [], by simp [picked]⟩
    rintro m0 ⟨env, rs⟩ hU0 hV0 ⟨i, r, us, hi, hr, hus, e6, q6, e0_18⟩ ih0; simp at hU0 e0_18; clear hV0
    simp at e6 q6
    have hw := wrap_up (show i < 4611686018427387904 by omega)
    have hul : us.length ≤ i := by rw [hus]; refine Nat.le_trans (picked_len ..) ?_; simp; omega
    have hbb : (us.length + 1) * 8 ≤ 140737488351232 := by omega
    simp [hU0, e0_18]
    refine RB_dec ?_ ?_ <;> intro h
    · have hn := picked_next s v.uids i h
      simp [hU0, e0_18, h, hw, w2]
      refine RB_split ?_ ?_ <;> intro hc
      · rw [if_pos hc] at hn
        rcases hr with rfl | rfl
        all_goals
          simp [hU0, e0_18, h, e6, q6, hbb]
          repeat (refine And.intro (by first | omega | (simp; omega)) ?_)
          refine ih0 (m0 - 1) _ (by omega) ?_ ?_ ⟨i + 1, 30, us ++ [v.uids[i]], by omega, by simp, by rw [hus]; exact hn.symm, ?_⟩
          · simp [hU0, e0_18, h]
          · simp [hU0, e0_18, h]
          simp [hU0, e0_18, hw]
      · rw [if_neg (by rw [hc]; simp), List.append_nil] at hn
        rcases hr with rfl | rfl
        · simp [hU0, e0_18]
          refine ih0 (m0 - 1) _ (by omega) ?_ ?_ ⟨i + 1, 14, us, by omega, by simp, by rw [hus]; exact hn.symm, ?_⟩
          · simp [hU0, e0_18, h]
          · simp [hU0, e0_18, h]
          simp [hU0, e0_18, hw, e6, q6]
        · simp [hU0, e0_18]
          refine ih0 (m0 - 1) _ (by omega) ?_ ?_ ⟨i + 1, 30, us, by omega, by simp, by rw [hus]; exact hn.symm, ?_⟩
          · simp [hU0, e0_18, h]
          · simp [hU0, e0_18, h]
          simp [hU0, e0_18, hw, e6, q6]
    · rw [List.take_of_length_le (by omega)] at hus
      subst hus
      clear ih0
      rcases hr with rfl | rfl
      all_goals
        simp [hU0, e0_18, e6, q6, w3]
        refine RB_split ?_ ?_ <;> intro hk <;> simp at hk <;> simp [hk]
theorem eq_sUidSet (v : View) (s : List Range) (hl : v.uids.length ≤ 40) (hs : s.length ≤ 1048576) : lim E 11 [encView false v, .lst false 44 2 (s.map encRange)] = some (.tup [.lst true 44 2 ((uidSet v s).1.map encRange), .bool (uidSet v s).2], []) := by
  have w1 := eq_sSetOk s (by omega)
  have w2 : ∀ n : Int, _ := fun n => eq_sSetHas s n (by omega)
  cases ho : setOk s
  · rw [ho] at w1
    rw [uidSet_no ho]
    refine lim_run (E := E) rfl Tryz.func11 rfl (by kernel_rfl) (by kernel_rfl) ?_
    simp [Tryz.f11, tmpAt, w1]
  · rw [ho] at w1
    refine lim_run (E := E) rfl Tryz.func11 rfl (by kernel_rfl) (by kernel_rfl) ?_
    simp [Tryz.f11, tmpAt, w1]
    refine loop_fr [1, 2] [(2,0)] (fun m st => ∃ (i r : Nat) (us : List Int), i + m = v.uids.length ∧ (r = 10 ∨ r = 39) ∧ us = picked s (v.uids.take i) ∧ fineU us = true ∧ st.env 6 = .slc (r,0) [] 0 (sAdds us).length ∧ st.rs (r,0) = some ⟨false, .lst true 44 2 ((sAdds us).map encRange)⟩ ∧ st.env 7 = .int .i64 i) (v.uids.length) _ ?_ ?_
    · exact ⟨0, 10, [], by simp [picked, fineU, sAdds]⟩
    rintro m0 ⟨env, rs⟩ hU0 hV0 ⟨i, r, us, hi, hr, hus, hf, e6, q6, e0_7⟩ ih0; simp at hU0 hV0 e0_7
    simp at e6 q6
    have hw := wrap_up (show i < 4611686018427387904 by omega)
    have hul : us.length ≤ i := by rw [hus]; refine Nat.le_trans (picked_len ..) ?_; simp; omega
    simp [hU0, hV0, e0_7]
    refine RB_dec ?_ ?_ <;> intro h
    · have hn := picked_next s v.uids i h
      simp [hU0, hV0, e0_7, h, hw, w2]
      refine RB_split ?_ ?_ <;> intro hc <;> simp at hc
      · rw [if_neg (by simpa using hc), List.append_nil, ← hus] at hn
        rcases hr with rfl | rfl
        · simp [hU0, hV0, e0_7]
          refine ih0 (m0 - 1) _ (by omega) ?_ ?_ ⟨i + 1, 10, us, by omega, by simp, hn.symm, hf, ?_⟩
          · simp [hU0, hV0, e0_7, h]
          · simp [hU0, hV0, e0_7, h]
          simp [hU0, hV0, e0_7, hw, e6, q6]
        · simp [hU0, hV0, e0_7]
          refine ih0 (m0 - 1) _ (by omega) ?_ ?_ ⟨i + 1, 39, us, by omega, by simp, hn.symm, hf, ?_⟩
          · simp [hU0, hV0, e0_7, h]
          · simp [hU0, hV0, e0_7, h]
          simp [hU0, hV0, e0_7, hw, e6, q6]
      · rw [if_pos (by simpa using hc), ← hus] at hn
        have a1 := eq_sSetAdd (sAdds us) v.uids[i] v.uids[i] (by have := sAdds_40 us; omega)
        have hf1 := (fineU_iff us).1 hf
        by_cases hu : 1 ≤ v.uids[i] ∧ v.uids[i] ≤ 9999
        · have hf2 : ∀ x ∈ us ++ [v.uids[i]], 1 ≤ x ∧ x ≤ 9999 := by
            intro x hx
            rcases List.mem_append.1 hx with hx | hx
            · exact hf1 x hx
            · obtain rfl := List.mem_singleton.1 hx; exact hu
          rw [setAdd_next hf2 (by omega)] at a1
          simp only at a1
          have hf3 : fineU (us ++ [v.uids[i]]) = true := (fineU_iff _).2 hf2
          rcases hr with rfl | rfl
          all_goals
            simp [hU0, hV0, e0_7, h, e6, q6, a1]
            refine ⟨trOk_unord (L := [(0, 1), (0, 2), (0, 3), (0, 4), (0, 5), (0, 6), (0, 7), (0, 8), (0, 9), (0, 10), (1, 3), (1, 6), (1, 7), (1, 8), (1, 9), (1, 10), (2, 3), (2, 6), (2, 7), (2, 8), (2, 9), (2, 10), (3, 6), (3, 7), (3, 8), (3, 9), (3, 10), (4, 6), (4, 7), (4, 8), (4, 9), (4, 10), (5, 6), (5, 7), (5, 8), (5, 9), (5, 10), (6, 8), (7, 8), (13, 14), (14, 15)]) (by kernel_rfl) (by simp) (by simp [indepAt, indep, spares, around, pre, isSlc, Tr.feels, Tr.all, moves, bare, opData, isExt, cmpOf, Op.operands, Call.operands, mentL, ment, D.noUndefL, D.noUndef, pureE, hU0, hV0, e0_7, h, e6, q6]), ?_⟩
            refine ih0 (m0 - 1) _ (by omega) ?_ ?_ ⟨i + 1, 39, us ++ [v.uids[i]], by omega, by simp, hn.symm, hf3, ?_⟩
            · simp [hU0, hV0, e0_7, h]
            · simp [hU0, hV0, e0_7, h]
            simp [hU0, hV0, e0_7, hw]
        · rw [setAdd_bad hu] at a1
          simp only at a1
          have hbad : fineU (picked s v.uids) = false := by
            cases hc2 : fineU (picked s v.uids)
            · rfl
            · exfalso; apply hu
              refine (fineU_iff _).1 hc2 _ (picked_all s v.uids (i + 1) _ ?_)
              rw [hn]; simp
          rw [uidSet_bad hbad]
          rcases hr with rfl | rfl
          all_goals
            simp [hU0, hV0, e0_7, h, e6, q6, a1]
            exact trOk_unord (L := [(0, 1), (0, 2), (0, 3), (0, 4), (0, 5), (0, 6), (0, 7), (0, 8), (0, 9), (0, 10), (1, 3), (1, 6), (1, 7), (1, 8), (1, 9), (1, 10), (2, 3), (2, 6), (2, 7), (2, 8), (2, 9), (2, 10), (3, 6), (3, 7), (3, 8), (3, 9), (3, 10), (4, 6), (4, 7), (4, 8), (4, 9), (4, 10), (5, 6), (5, 7), (5, 8), (5, 9), (5, 10), (6, 8), (7, 8), (13, 14), (14, 15)]) (by kernel_rfl) (by simp) (by simp [indepAt, indep, spares, around, pre, isSlc, Tr.feels, Tr.all, moves, bare, opData, isExt, cmpOf, Op.operands, Call.operands, mentL, ment, D.noUndefL, D.noUndef, pureE, hU0, hV0, e0_7, h, e6, q6])
    · rw [List.take_of_length_le (by omega)] at hus
      rw [hus] at hf e6 q6
      rw [uidSet_fine ho hf]
      clear ih0
      rcases hr with rfl | rfl
      all_goals
        simp [hU0, hV0, e0_7, e6, q6]
end Go.Proofs.YtoeadcefgpkdcaaGreat
