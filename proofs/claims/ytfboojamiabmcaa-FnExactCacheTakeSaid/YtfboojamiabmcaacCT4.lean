/- Copies that take lines: the reference's. -/
import Derived.Test.YtfboojamiabmcaacCT3
set_option linter.unusedSectionVars false
set_option linter.all false
set_option linter.unusedVariables false
set_option linter.unusedSimpArgs false
set_option maxRecDepth 100000
namespace Go.Proofs.Ytfboojamiabmcaa
open Go.Lft

def takeS (c : Cache) (x : Line) : Cache :=
  if x.kind = 5 then ⟨c.box, x.num, x.mod, if x.all = true ∨ ¬ x.num = c.valid then [] else c.seens⟩
  else if x.kind = 4 then ⟨c.box, c.valid, c.mod, c.seens.filter fun y => !setHas x.set_ y.uid⟩
  else if x.kind = 3 then ⟨c.box, c.valid, c.mod, c.seens.filter (fun y => decide (y.uid < x.uid)) ++ [⟨x.uid, x.flags, x.mod⟩] ++ c.seens.filter (fun y => decide (x.uid < y.uid))⟩
  else c
theorem eq_l17Copy (c : Cache) (h : c.seens.length ≤ 16777216) : lim E 30 [encCache false false c] = some (encCache false true c, []) := by
  have h1 : c.seens.length * 24 ≤ 140737488351232 := by omega
  refine lim_run (E := E) rfl Try.func30 rfl (by kernel_rfl) (by kernel_rfl) ?_
  simp [Try.f30, tmpAt, h1]
  all_goals exact trOk_unord (L := [(0, 2), (0, 3), (0, 4), (0, 5), (0, 6), (0, 7), (0, 8), (0, 9), (1, 2), (1, 3), (1, 4), (1, 5), (1, 6), (1, 7), (1, 8), (1, 9), (2, 4), (2, 5), (2, 6), (2, 7), (2, 8), (2, 9), (3, 4), (3, 5), (3, 6), (3, 7), (3, 8), (3, 9), (4, 6), (4, 7), (4, 8), (4, 9), (5, 6), (5, 7), (5, 8), (5, 9), (6, 7), (6, 8)]) (by kernel_rfl) (by simp) (by simp [indepAt, indep, spares, around, aside, pre, isSlc, Tr.feels, Tr.all, moves, bare, opData, isExt, cmpOf, Op.operands, Call.operands, mentL, ment, D.noUndefL, D.noUndef, pureE])
set_option maxHeartbeats 4000000 in
theorem eq_l17Line (c : Cache) (x : Line) (hx : x.set_.length ≤ 16777216) (hc : c.seens.length ≤ 1048576) : lim E 31 [.pto (encCache false true c), encLine false false x] = some (.tup [], [.pto (encCache false true (takeS c x))]) := by
  have bb : ∀ j : Nat, j ≤ 2097154 → (j + 1) * 24 ≤ 140737488351232 := fun j hj => by omega
  have wS : ∀ n, lim E 68 [.lst false 117 2 (x.set_.map encRange), .int .i64 n] = some (.bool (setHas x.set_ n), []) := fun n => eq_sSetHas x.set_ n hx
  obtain ⟨kind, num, uid, flags, mod, set_, all_⟩ := x
  obtain ⟨box, valid, cm, seens⟩ := c
  simp only at wS hc
  by_cases k5 : kind = 5
  · subst k5
    cases ha : all_
    · by_cases hv : num = valid
      · subst hv
        refine lim_run (E := E) rfl Try.func31 rfl (by kernel_rfl) (by kernel_rfl) ?_
        simp [Try.f31, tmpAt]
        simp [takeS]
      · refine lim_run (E := E) rfl Try.func31 rfl (by kernel_rfl) (by kernel_rfl) ?_
        simp [Try.f31, tmpAt, hv]
        simp [takeS, hv]
    · refine lim_run (E := E) rfl Try.func31 rfl (by kernel_rfl) (by kernel_rfl) ?_
      simp [Try.f31, tmpAt]
      simp [takeS]
  · by_cases k4 : kind = 4
    · subst k4
      refine lim_run (E := E) rfl Try.func31 rfl (by kernel_rfl) (by kernel_rfl) ?_
      simp [Try.f31, tmpAt]
      refine loop_fr [0, 3] [(3,0), (0,99), (0,99)] (fun m st => ∃ (i r : Nat) (L : List Seen), i + m = seens.length ∧ (r = 8 ∨ r = 70) ∧ L = (seens.take i).filter (fun y => !setHas set_ y.uid) ∧ L.length ≤ i ∧ st.env 4 = .slc (r,0) [] 0 L.length ∧ st.rs (r,0) = some ⟨false, .lst true 103 3 (L.map encSeen)⟩ ∧ st.env 5 = .int .i64 i) (seens.length) _ ?_ ?_
      · exact ⟨0, 8, [], by simp⟩
      rintro m0 ⟨env, rs⟩ hU0 hV0 ⟨i, r, L, hi, hr, hL, hl, e4, q4, e0_5⟩ ih0; simp at hU0 hV0 e0_5
      simp at e4 q4
      have hu := wrap_up (show i < 4611686018427387904 by omega)
      have b1 := bb L.length (by clear hr hu; omega)
      have hr2 := hr
      simp [hU0, hV0, e0_5]
      refine RB_dec ?_ ?_ <;> intro h
      · have hn := take_filter (fun y : Seen => !setHas set_ y.uid) seens i h
        rw [← hL] at hn
        have wSi := wS seens[i].uid
        cases hh : setHas set_ seens[i].uid
        · rw [hh] at wSi hn
          rcases hr with rfl | rfl
          all_goals
            simp [hU0, hV0, e0_5, h, e4, q4, hu, wSi, b1]
            refine ih0 (m0 - 1) _ (by omega) ?_ ?_ ⟨i + 1, 70, L ++ [seens[i]], by omega, .inr rfl, by rw [hn]; rfl, by simp; omega, ?_⟩
            · simp [hU0, hV0, e0_5]
            · simp [hU0, hV0, e0_5]
            simp [hU0, hV0, e0_5, hu]
        · rw [hh] at wSi hn
          rcases hr with rfl | rfl
          all_goals
            simp [hU0, hV0, e0_5, h, e4, q4, hu, wSi, b1]
            refine ih0 (m0 - 1) _ (by omega) ?_ ?_ ⟨i + 1, _, L, by omega, hr2, by rw [hn]; simp, by omega, ?_⟩
            · simp [hU0, hV0, e0_5]
            · simp [hU0, hV0, e0_5]
            simp [hU0, hV0, e0_5, hu, e4, q4]
      · have hd : seens.take i = seens := List.take_of_length_le (by clear hr hu; omega)
        rw [hd] at hL
        rcases hr with rfl | rfl
        all_goals
          simp [hU0, hV0, e0_5, h, e4, q4]
          simp [takeS, hL]
    · by_cases k3 : kind = 3
      · subst k3
        refine lim_run (E := E) rfl Try.func31 rfl (by kernel_rfl) (by kernel_rfl) ?_
        simp [Try.f31, tmpAt]
        skip
        refine loop_fr [0, 3] [(3,0), (0,99), (0,99)] (fun m st => ∃ (i r : Nat) (L : List Seen), i + m = seens.length ∧ (r = 8 ∨ r = 106) ∧ L = (seens.take i).filter (fun y => decide (y.uid < uid)) ∧ L.length ≤ i ∧ st.env 4 = .slc (r,0) [] 0 L.length ∧ st.rs (r,0) = some ⟨false, .lst true 103 3 (L.map encSeen)⟩ ∧ st.env 6 = .int .i64 i) (seens.length) _ ?_ ?_
        · exact ⟨0, 8, [], by simp⟩
        rintro m1 ⟨env, rs⟩ hU1 hV1 ⟨i, r, L, hi, hr, hL, hl, e4, q4, e1_6⟩ ih1; simp at hU1 hV1 e1_6
        simp at e4 q4
        have hu := wrap_up (show i < 4611686018427387904 by omega)
        have b1 := bb L.length (by clear hr hu; omega)
        have hr2 := hr
        simp [hU1, hV1, e1_6]
        refine RB_dec ?_ ?_ <;> intro h
        · have hn := take_filter (fun y : Seen => decide (y.uid < uid)) seens i h
          rw [← hL] at hn
          by_cases hh : seens[i].uid < uid
          · rcases hr with rfl | rfl
            all_goals
              simp [hU1, hV1, e1_6, h, e4, q4, hu, hh, b1]
              refine ih1 (m1 - 1) _ (by omega) ?_ ?_ ⟨i + 1, 106, L ++ [seens[i]], by omega, .inr rfl, by rw [hn]; simp [hh], by simp; omega, ?_⟩
              · simp [hU1, hV1, e1_6]
              · simp [hU1, hV1, e1_6]
              simp [hU1, hV1, e1_6, hu]
          · rcases hr with rfl | rfl
            all_goals
              simp [hU1, hV1, e1_6, h, e4, q4, hu, hh, b1]
              refine ih1 (m1 - 1) _ (by omega) ?_ ?_ ⟨i + 1, _, L, by omega, hr2, by rw [hn]; simp [hh], by omega, ?_⟩
              · simp [hU1, hV1, e1_6]
              · simp [hU1, hV1, e1_6]
              simp [hU1, hV1, e1_6, hu, e4, q4]
        · have hd : seens.take i = seens := List.take_of_length_le (by clear hr hu; omega)
          rw [hd] at hL
          rcases hr with rfl | rfl
          all_goals
            simp [hU1, hV1, e1_6, h, e4, q4, b1]
            refine loop_fr [0, 3] [(3,0), (0,99), (0,99)] (fun m st => ∃ (j r : Nat) (K : List Seen), j + m = seens.length ∧ (r = 116 ∨ r = 146) ∧ K = L ++ [⟨uid, flags, mod⟩] ++ (seens.take j).filter (fun y => decide (uid < y.uid)) ∧ K.length ≤ L.length + 1 + j ∧ st.env 4 = .slc (r,0) [] 0 K.length ∧ st.rs (r,0) = some ⟨false, .lst true 103 3 (K.map encSeen)⟩ ∧ st.env 7 = .int .i64 j) (seens.length) _ ?_ ?_
            · exact ⟨0, 116, L ++ [⟨uid, flags, mod⟩], by simp⟩
            rintro m2 ⟨env, rs⟩ hU2 hV2 ⟨j, r, K, hj, hr, hK, hKl, e4', q4', e2_7⟩ ih2; simp at hU2 hV2 e2_7
            simp at e4' q4'
            have hu2 := wrap_up (show j < 4611686018427387904 by omega)
            have b2 := bb K.length (by clear hr hu hu2; omega)
            have hr3 := hr
            simp [hU1, hV1, e1_6, hU2, hV2, e2_7]
            refine RB_dec ?_ ?_ <;> intro h'
            · have hn := take_filter (fun y : Seen => decide (uid < y.uid)) seens j h'
              by_cases hh : uid < seens[j].uid
              · rcases hr with rfl | rfl
                all_goals
                  simp [hU1, hV1, e1_6, hU2, hV2, e2_7, h', e4', q4', hu2, hh, b2]
                  refine ih2 (m2 - 1) _ (by omega) ?_ ?_ ⟨j + 1, 146, K ++ [seens[j]], by omega, .inr rfl, by rw [hn, hK]; simp [hh], by simp; omega, ?_⟩
                  · simp [hU1, hV1, e1_6, hU2, hV2, e2_7]
                  · simp [hU1, hV1, e1_6, hU2, hV2, e2_7]
                  simp [hU1, hV1, e1_6, hU2, hV2, e2_7, hu2]
              · rcases hr with rfl | rfl
                all_goals
                  simp [hU1, hV1, e1_6, hU2, hV2, e2_7, h', e4', q4', hu2, hh, b2]
                  refine ih2 (m2 - 1) _ (by omega) ?_ ?_ ⟨j + 1, _, K, by omega, hr3, by rw [hn, hK]; simp [hh], by omega, ?_⟩
                  · simp [hU1, hV1, e1_6, hU2, hV2, e2_7]
                  · simp [hU1, hV1, e1_6, hU2, hV2, e2_7]
                  simp [hU1, hV1, e1_6, hU2, hV2, e2_7, hu2, e4', q4']
            · have hd2 : seens.take j = seens := List.take_of_length_le (by clear hr hu hu2; omega)
              rw [hd2] at hK
              rcases hr with rfl | rfl
              all_goals
                simp [hU1, hV1, e1_6, hU2, hV2, e2_7, h', e4', q4']
                simp [takeS, hK, hL]
      · refine lim_run (E := E) rfl Try.func31 rfl (by kernel_rfl) (by kernel_rfl) ?_
        simp [Try.f31, tmpAt, k5, k4, k3]
        simp [takeS, k5, k4, k3]
end Go.Proofs.Ytfboojamiabmcaa
