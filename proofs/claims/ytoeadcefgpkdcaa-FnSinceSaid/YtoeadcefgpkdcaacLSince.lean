/- The law FnSince, at the level of data: true for all data. -/
import Derived.Test.YtoeadcefgpkdcaacP7
set_option linter.unusedSectionVars false
set_option linter.all false
set_option linter.unusedVariables false
set_option linter.unusedSimpArgs false
set_option maxRecDepth 100000
namespace Go.Proofs.Ytoeadcefgpkdcaa
open Go.Lft

set_option maxHeartbeats 4000000 in
theorem law_Since : ∀ xs, Sh.hasL [.slice 5 1 (.int .u8)] xs → lim E 9 xs = some (.bool true, []) := by
  intro xs h
  obtain ⟨x, s, rfl, g, h⟩ := has_cons h
  obtain rfl := has_nil h
  obtain ⟨code, rfl⟩ := has_code _ _ g
  by_cases hbig : 1048576 < code.length
  · refine lim_run (E := E) rfl Try.func9 rfl (by kernel_rfl) (by kernel_rfl) ?_
    simp [Try.f9, tmpAt, hbig]
  have hc : code.length ≤ 1048576 := by omega
  obtain ⟨v, b, n, hok, hlt, w1⟩ := ex_DrawLater code hc
  try simp at w1
  have hsz := boxOk_sz hok
  have hl := boxOk_lens hok
  have hvl := hlt.len
  have w2 := eq_Changed b v.mod (by omega)
  have w3 := eq_sChanged b v.mod (by omega)
  have w4 := eq_Vanished b v.mod (by omega)
  have w5 := eq_sVanished b v.mod (by omega)
  have hcl : (changed b v.mod).length ≤ 30 := by
    have : (changed b v.mod).length ≤ b.mails.length := List.length_filter_le ..
    omega
  have hgl := vanished_len hok v.mod
  have hmain := since_left hok hlt
  have w6 := eq_sameMails (changed b v.mod) (changed b v.mod) (by omega)
  have w7 := eq_uids b (by omega)
  try simp at w2
  try simp at w3
  try simp at w4
  try simp at w5
  try simp at w7
  generalize changed b v.mod = cs at *
  generalize vanished b v.mod = V at *
  obtain ⟨gone, ok⟩ := V
  simp only at hgl hmain w4 w5
  have w8 := eq_sameSet gone gone (by omega)
  try simp at w6
  try simp at w8
  refine lim_run (E := E) rfl Try.func9 rfl (by kernel_rfl) (by kernel_rfl) ?_
  simp [Try.f9, tmpAt, hbig, w1, w2, w3, w4, w5, w6, w8]
  refine loop_fr [3, 4, 6, 7, 8] [(3,0), (4,0), (25,0), (29,0)] (fun m st => ∃ (i r : Nat) (us : List Int), i + m = v.uids.length ∧ (r = 55 ∨ r = 78) ∧ us = (v.uids.take i).filter (fun u => !setHas gone u) ∧ st.env 11 = .slc (r,0) [] 0 us.length ∧ st.rs (r,0) = some ⟨false, .lst true 3 1 (us.map (.int .i64))⟩ ∧ st.env 12 = .int .i64 i) (v.uids.length) _ ?_ ?_
  · exact ⟨0, 55, [], by simp⟩
  rintro m0 ⟨env, rs⟩ hU0 hV0 ⟨i, r, us, hi, hr, hus, e11, q11, e0_12⟩ ih0; simp at hU0 hV0 e0_12
  simp at e11 q11
  have hw := wrap_up (show i < 4611686018427387904 by omega)
  have hul : us.length ≤ i := by rw [hus]; refine Nat.le_trans (List.length_filter_le ..) ?_; simp; omega
  have hb : (us.length + 1) * 8 ≤ 140737488351232 := by omega
  simp [hU0, hV0, e0_12]
  refine RB_dec ?_ ?_ <;> intro h
  · have z1 := eq_SetHas gone v.uids[i] (by omega)
    have hn := take_filter (fun u => !setHas gone u) v.uids i h
    rw [← hus] at hn
    cases hg : setHas gone v.uids[i]
    · simp [hg] at hn
      rcases hr with rfl | rfl
      all_goals
        simp [hU0, hV0, e0_12, h, z1, hg, e11, q11, hb, tmpAt]
        repeat (refine And.intro (by first | omega | (simp; omega)) ?_)
        refine ih0 (m0 - 1) _ (by omega) ?_ ?_ ⟨i + 1, 78, us ++ [v.uids[i]], by omega, by simp, hn.symm, ?_⟩
        · simp [hU0, hV0, e0_12, h]
        · simp [hU0, hV0, e0_12, h]
        simp [hU0, hV0, e0_12, hw]
    · simp [hg] at hn
      rcases hr with rfl | rfl
      · simp [hU0, hV0, e0_12, h, z1, hg, e11, q11, tmpAt]
        refine ih0 (m0 - 1) _ (by omega) ?_ ?_ ⟨i + 1, 55, us, by omega, by simp, hn.symm, ?_⟩
        · simp [hU0, hV0, e0_12, h]
        · simp [hU0, hV0, e0_12, h]
        simp [hU0, hV0, e0_12, hw, e11, q11]
      · simp [hU0, hV0, e0_12, h, z1, hg, e11, q11, tmpAt]
        refine ih0 (m0 - 1) _ (by omega) ?_ ?_ ⟨i + 1, 78, us, by omega, by simp, hn.symm, ?_⟩
        · simp [hU0, hV0, e0_12, h]
        · simp [hU0, hV0, e0_12, h]
        simp [hU0, hV0, e0_12, hw, e11, q11]
  · rw [List.take_of_length_le (by omega)] at hus
    have hL : us.length ≤ 30 := by omega
    simp [hU0, hV0, e0_12, h]
    refine loop_fr [4, 6, 8] [(4,0), (25,0)] (fun m st => ∃ (j r : Nat) (l : List Int), j + m = cs.length ∧ (r = 55 ∨ r = 78 ∨ r = 100) ∧ l = addNew us (cs.take j) ∧ st.env 11 = .slc (r,0) [] 0 l.length ∧ st.rs (r,0) = some ⟨false, .lst true 3 1 (l.map (.int .i64))⟩ ∧ st.env 13 = .int .i64 j) (cs.length) _ ?_ ?_
    · exact ⟨0, r, us, by simp [addNew, e11, q11]; omega⟩
    rintro m1 ⟨env, rs⟩ hU1 hV1 ⟨j, r, l, hj, hr, hll, e11, q11, e1_13⟩ ih1; simp at hU1 hV1 e1_13
    simp at e11 q11
    have hw := wrap_up (show j < 4611686018427387904 by omega)
    have hal : l.length ≤ 60 := by
      have := addNew_len (cs.take j) us
      rw [hll]; rw [List.length_take] at this; omega
    have hb : (l.length + 1) * 8 ≤ 140737488351232 := by omega
    simp [hU0, hV0, e0_12, hU1, hV1, e1_13]
    refine RB_dec ?_ ?_ <;> intro h
    · have z2 := eq_in l cs[j].uid (by omega)
      have hn := addNew_next us cs j h
      rw [← hll] at hn
      by_cases hin : cs[j].uid ∈ l
      · rw [if_pos hin] at hn
        rcases hr with rfl | rfl | rfl
        · simp [hU0, hV0, e0_12, hU1, hV1, e1_13, h, z2, hin, e11, q11, tmpAt]
          refine ih1 (m1 - 1) _ (by omega) ?_ ?_ ⟨j + 1, 55, l, by omega, by simp, hn.symm, ?_⟩
          · simp [hU0, hV0, e0_12, hU1, hV1, e1_13, h]
          · simp [hU0, hV0, e0_12, hU1, hV1, e1_13, h]
          simp [hU0, hV0, e0_12, hU1, hV1, e1_13, hw, e11, q11]
        · simp [hU0, hV0, e0_12, hU1, hV1, e1_13, h, z2, hin, e11, q11, tmpAt]
          refine ih1 (m1 - 1) _ (by omega) ?_ ?_ ⟨j + 1, 78, l, by omega, by simp, hn.symm, ?_⟩
          · simp [hU0, hV0, e0_12, hU1, hV1, e1_13, h]
          · simp [hU0, hV0, e0_12, hU1, hV1, e1_13, h]
          simp [hU0, hV0, e0_12, hU1, hV1, e1_13, hw, e11, q11]
        · simp [hU0, hV0, e0_12, hU1, hV1, e1_13, h, z2, hin, e11, q11, tmpAt]
          refine ih1 (m1 - 1) _ (by omega) ?_ ?_ ⟨j + 1, 100, l, by omega, by simp, hn.symm, ?_⟩
          · simp [hU0, hV0, e0_12, hU1, hV1, e1_13, h]
          · simp [hU0, hV0, e0_12, hU1, hV1, e1_13, h]
          simp [hU0, hV0, e0_12, hU1, hV1, e1_13, hw, e11, q11]
      · rw [if_neg hin] at hn
        rcases hr with rfl | rfl | rfl
        all_goals
          simp [hU0, hV0, e0_12, hU1, hV1, e1_13, h, z2, hin, e11, q11, hb, tmpAt]
          repeat (refine And.intro (by first | omega | (simp; omega)) ?_)
          refine ih1 (m1 - 1) _ (by omega) ?_ ?_ ⟨j + 1, 100, l ++ [cs[j].uid], by omega, by simp, hn.symm, ?_⟩
          · simp [hU0, hV0, e0_12, hU1, hV1, e1_13, h]
          · simp [hU0, hV0, e0_12, hU1, hV1, e1_13, h]
          simp [hU0, hV0, e0_12, hU1, hV1, e1_13, hw]
    · rw [List.take_of_length_le (by omega)] at hll
      have w9 := eq_sameInts (uidsL b) (uidsL b) (by rw [uidsL_len]; omega)
      cases ok
      · simp [hU0, hV0, e0_12, hU1, hV1, e1_13, h, tmpAt]
      · have hm := hmain rfl
        rw [← hus, ← hll] at hm
        subst hm
        rcases hr with rfl | rfl | rfl
        all_goals
          simp [hU0, hV0, e0_12, hU1, hV1, e1_13, h, w7, w9, e11, q11, tmpAt]
end Go.Proofs.Ytoeadcefgpkdcaa
