/- Boxes: the reference's BoxOk. -/
import Derived.Test.YtomeglmblhfafaaGreatDoorcD2
import Derived.Test.YtomeglmblhfafaaGreatDoorcD5
set_option linter.unusedSectionVars false
set_option linter.all false
set_option linter.unusedVariables false
set_option linter.unusedSimpArgs false
set_option maxRecDepth 100000
namespace Go.Proofs.YtomeglmblhfafaaGreatDoor
open Go.Lft

@[simp] theorem eq_l08HasMail (b : Box) (u : Int) (hl : b.mails.length ≤ 16777216) : lim E 118 [encBox false false b, .int .i64 u] = some (.bool (hasUid b.mails u), []) := by
  refine lim_run (E := E) rfl Tryz.func118 rfl (by kernel_rfl) (by kernel_rfl) ?_
  simp [Tryz.f118, tmpAt]
  refine loop_fr [1, 2] [(2,0)] (fun m st => ∃ (i : Nat), i + m = b.mails.length ∧ (b.mails.take i).any (fun m => decide (m.uid = u)) = false ∧ st.env 5 = .int .i64 i) (b.mails.length) _ ?_ ?_
  · exact ⟨0, by simp⟩
  rintro m0 ⟨env, rs⟩ hU0 hV0 ⟨i, hi, hs, e0_5⟩ ih0; simp at hU0 hV0 e0_5
  have hw := wrap_up (show i < 4611686018427387904 by omega)
  simp [hU0, hV0, e0_5]
  refine RB_dec ?_ ?_ <;> intro h
  · simp [hU0, hV0, e0_5, h, tmpAt]
    refine RB_dec ?_ ?_ <;> intro h2 <;> simp [hU0, hV0, e0_5, h, tmpAt]
    · exact any_bad (f := fun m : Mail => decide (m.uid = u)) h (by simpa using h2)
    · refine ih0 (m0 - 1) _ (by omega) ?_ ?_ ⟨i + 1, by omega, any_next h hs (by simpa using h2), ?_⟩
      · simp [hU0, hV0, e0_5]
      · simp [hU0, hV0, e0_5]
      simp [hU0, hV0, e0_5, hw]
  · simp [hU0, hV0, e0_5, h]
    exact any_take (f := fun m : Mail => decide (m.uid = u)) h hs
theorem boxOk_false_mails {b : Box} (h : ¬ upto b.mails (mailsGood b) b.mails.length) : boxOk b = false := by simp [boxOk, BoxOK, MailsOK, h]
theorem boxOk_false_tombs {b : Box} (h : ¬ upto b.tombs (tombsGood b) b.tombs.length) : boxOk b = false := by simp [boxOk, BoxOK, TombsOK, h]
set_option maxHeartbeats 2000000 in
theorem eq_sBoxOk (b : Box) (hs : szBox b ≤ 16777216) : lim E 62 [encBox false false b] = some (.bool (boxOk b), []) := by
  have hz : szBox b = b.name.length + (b.mails.length + tot (fun (y : Mail) => szMail y) b.mails) + b.tombs.length := rfl
  have w1 := eq_sBoxName b.name (by omega)
  by_cases hP : boxName b.name = true ∧ within b.valid 1 9999 = true ∧ within b.next 1 9999 = true ∧ within b.mod 1 100000 = true ∧ b.mails.length ≤ 30 ∧ b.tombs.length ≤ 40 ∧ within b.horizon 0 b.mod = true
  case neg =>
    have hb : boxOk b = false := by
      have : ¬ BoxOK b := by
        rintro ⟨g1, ⟨g2, g3, g4, g5⟩, ⟨_, g6⟩, ⟨_, g7⟩⟩
        exact hP ⟨g1, g2, g3, g4, g6, g7, g5⟩
      simp [boxOk, this]
    rw [hb]
    refine lim_run (E := E) rfl Tryz.func62 rfl (by kernel_rfl) (by kernel_rfl) ?_
    simp [Tryz.f62, tmpAt, w1]
    repeat' first | (refine RT_dec ?_ ?_ <;> intro hg <;> try simp [tmpAt, hg, w1]) | (refine RT_split ?_ ?_ <;> intro hg <;> (try simp at hg) <;> try simp [tmpAt, hg, w1]) | (refine RB_dec ?_ ?_ <;> intro hg <;> try simp [tmpAt, hg, w1]) | (refine RB_ndec ?_ ?_ <;> intro hg <;> try simp [tmpAt, hg, w1]) | (refine RB_split ?_ ?_ <;> intro hg <;> (try simp at hg) <;> try simp [tmpAt, hg, w1]) | (refine RG_dec ?_ ?_ <;> intro hg <;> try simp [tmpAt, hg, w1]) | (refine RG_split ?_ ?_ <;> intro hg <;> (try simp at hg) <;> try simp [tmpAt, hg, w1])
    all_goals exfalso; apply hP; simp_all <;> omega
  obtain ⟨h1, h2, h3, h4, h5, h6, hg⟩ := hP
  have q5 : ¬ (30 : Int) < b.mails.length := by omega
  have q6 : ¬ (40 : Int) < b.tombs.length := by omega
  refine lim_run (E := E) rfl Tryz.func62 rfl (by kernel_rfl) (by kernel_rfl) ?_
  simp [Tryz.f62, tmpAt, w1, h1, h2, h3, h4, hg, q5, q6]
  have h3' := h3
  have h4' := h4
  have hg' := hg
  simp [within] at h3' h4' hg'
  have hwn : IntKind.i64.wrap (b.next - 1) = b.next - 1 := wrap_in (by omega) (by omega)
  refine loop_fr [1] [(1,0)] (fun m st => ∃ (i : Nat), i + m = b.mails.length ∧ upto b.mails (mailsGood b) i ∧ st.env 3 = .int .i64 i) (b.mails.length) _ ?_ ?_
  · exact ⟨0, by simp [upto_zero]⟩
  rintro m0 ⟨env, rs⟩ hU0 hV0 ⟨i, hi, ha, e0_3⟩ ih0; simp at hU0 hV0 e0_3
  have hw := wrap_up (show i < 4611686018427387904 by omega)
  simp [hU0, hV0, e0_3]
  refine RB_dec ?_ ?_ <;> intro h
  · have wm := eq_sMailOk b.mails[i].text (by have := tot_mem (fun (y : Mail) => szMail y) (List.getElem_mem h); have : szMail b.mails[i] = b.mails[i].text.length := rfl; omega)
    by_cases hi0 : 0 < i
    · have hp : IntKind.i64.wrap ((i : Int) - 1) = ((i - 1 : Nat) : Int) := by rw [wrap_in (by omega) (by omega)]; omega
      have hlt : i - 1 < b.mails.length := by omega
      have hi1 : i ≠ 0 := by omega
      have hmg : mailsGood b i b.mails[i] = mailGood b (some b.mails[i-1]) b.mails[i] := by simp [mailsGood, prevOf, hi1, hlt]
      simp [hU0, hV0, e0_3, h, tmpAt, hi0, hwn, hp, hlt, wm]
      repeat' first | (refine RT_dec ?_ ?_ <;> intro hg <;> try simp [tmpAt, hg, hU0, hV0, e0_3, h, hw, hp, hlt, hi0, hwn, wm]) | (refine RT_split ?_ ?_ <;> intro hg <;> (try simp at hg) <;> try simp [tmpAt, hg, hU0, hV0, e0_3, h, hw, hp, hlt, hi0, hwn, wm]) | (refine RB_dec ?_ ?_ <;> intro hg <;> try simp [tmpAt, hg, hU0, hV0, e0_3, h, hw, hp, hlt, hi0, hwn, wm]) | (refine RB_ndec ?_ ?_ <;> intro hg <;> try simp [tmpAt, hg, hU0, hV0, e0_3, h, hw, hp, hlt, hi0, hwn, wm]) | (refine RB_split ?_ ?_ <;> intro hg <;> (try simp at hg) <;> try simp [tmpAt, hg, hU0, hV0, e0_3, h, hw, hp, hlt, hi0, hwn, wm]) | (refine RG_dec ?_ ?_ <;> intro hg <;> try simp [tmpAt, hg, hU0, hV0, e0_3, h, hw, hp, hlt, hi0, hwn, wm]) | (refine RG_split ?_ ?_ <;> intro hg <;> (try simp at hg) <;> try simp [tmpAt, hg, hU0, hV0, e0_3, h, hw, hp, hlt, hi0, hwn, wm])
      all_goals first
        | (exact (boxOk_false_mails (upto_bad h (by clear ih0; rw [hmg]; simp_all [mailGood] <;> omega))); done)
        | (refine ih0 (m0 - 1) _ (by omega) ?_ ?_ ⟨i + 1, by omega, upto_next h ha (by clear ih0; rw [hmg]; simp_all [mailGood] <;> omega), ?_⟩
           · simp [hU0, hV0, e0_3]
           · simp [hU0, hV0, e0_3]
           simp [hU0, hV0, e0_3, hw])
    · obtain rfl : i = 0 := by omega
      have hmg : mailsGood b 0 b.mails[0] = mailGood b none b.mails[0] := by simp [mailsGood, prevOf]
      simp [hU0, hV0, e0_3, h, tmpAt, hwn, wm]
      repeat' first | (refine RT_dec ?_ ?_ <;> intro hg <;> try simp [tmpAt, hg, hU0, hV0, e0_3, h, hw, hwn, wm]) | (refine RT_split ?_ ?_ <;> intro hg <;> (try simp at hg) <;> try simp [tmpAt, hg, hU0, hV0, e0_3, h, hw, hwn, wm]) | (refine RB_dec ?_ ?_ <;> intro hg <;> try simp [tmpAt, hg, hU0, hV0, e0_3, h, hw, hwn, wm]) | (refine RB_ndec ?_ ?_ <;> intro hg <;> try simp [tmpAt, hg, hU0, hV0, e0_3, h, hw, hwn, wm]) | (refine RB_split ?_ ?_ <;> intro hg <;> (try simp at hg) <;> try simp [tmpAt, hg, hU0, hV0, e0_3, h, hw, hwn, wm]) | (refine RG_dec ?_ ?_ <;> intro hg <;> try simp [tmpAt, hg, hU0, hV0, e0_3, h, hw, hwn, wm]) | (refine RG_split ?_ ?_ <;> intro hg <;> (try simp at hg) <;> try simp [tmpAt, hg, hU0, hV0, e0_3, h, hw, hwn, wm])
      all_goals first
        | (exact (boxOk_false_mails (upto_bad h (by clear ih0; rw [hmg]; simp_all [mailGood] <;> omega))); done)
        | (refine ih0 (m0 - 1) _ (by omega) ?_ ?_ ⟨0 + 1, by omega, upto_next h ha (by clear ih0; rw [hmg]; simp_all [mailGood] <;> omega), ?_⟩
           · simp [hU0, hV0, e0_3]
           · simp [hU0, hV0, e0_3]
           simp [hU0, hV0, e0_3, hw])
  · have hM := upto_all h ha
    simp [hU0, hV0, e0_3, h]
    refine loop_fr [1] [(1,0)] (fun m st => ∃ (i : Nat), i + m = b.tombs.length ∧ upto b.tombs (tombsGood b) i ∧ st.env 5 = .int .i64 i) (b.tombs.length) _ ?_ ?_
    · exact ⟨0, by simp [upto_zero]⟩
    clear ha
    rintro m1 ⟨env, rs⟩ hU1 hV1 ⟨i, hi, ha, e1_5⟩ ih1; simp at hU1 hV1 e1_5
    have hw := wrap_up (show i < 4611686018427387904 by omega)
    have hti := hi
    simp [hU0, hV0, e0_3, hU1, hV1, e1_5]
    refine RB_dec ?_ ?_ <;> intro h
    · have wm := eq_l08HasMail b b.tombs[i].uid (by omega)
      try simp at wm
      have hbad : tombsGood b i b.tombs[i] = false → boxOk b = false := fun hx => boxOk_false_tombs (upto_bad h hx)
      simp [hU0, hV0, e0_3, hU1, hV1, e1_5, h, tmpAt, hwn, wm]
      repeat' first | (refine RT_dec ?_ ?_ <;> intro hg <;> try simp [tmpAt, hg, hU0, hV0, e0_3, hU1, hV1, e1_5, h, hw, hwn, wm]) | (refine RT_split ?_ ?_ <;> intro hg <;> (try simp at hg) <;> try simp [tmpAt, hg, hU0, hV0, e0_3, hU1, hV1, e1_5, h, hw, hwn, wm]) | (refine RB_dec ?_ ?_ <;> intro hg <;> try simp [tmpAt, hg, hU0, hV0, e0_3, hU1, hV1, e1_5, h, hw, hwn, wm]) | (refine RB_ndec ?_ ?_ <;> intro hg <;> try simp [tmpAt, hg, hU0, hV0, e0_3, hU1, hV1, e1_5, h, hw, hwn, wm]) | (refine RB_split ?_ ?_ <;> intro hg <;> (try simp at hg) <;> try simp [tmpAt, hg, hU0, hV0, e0_3, hU1, hV1, e1_5, h, hw, hwn, wm]) | (refine RG_dec ?_ ?_ <;> intro hg <;> try simp [tmpAt, hg, hU0, hV0, e0_3, hU1, hV1, e1_5, h, hw, hwn, wm]) | (refine RG_split ?_ ?_ <;> intro hg <;> (try simp at hg) <;> try simp [tmpAt, hg, hU0, hV0, e0_3, hU1, hV1, e1_5, h, hw, hwn, wm])
      all_goals try (exact hbad (by clear ih0 ih1; simp_all [tombsGood, tombGood, within] <;> omega); done)
      rename_i g1 g2 g3
      refine loop_fr [1, 5, 6] [(1,0), (6,0)] (fun m st => ∃ (k : Nat), k + m = i ∧ hasTomb (b.tombs.take k) b.tombs[i].uid = false ∧ st.env 7 = .int .i64 k) (i) _ ?_ ?_
      · exact ⟨0, by simp [hasTomb]⟩
      rintro m2 ⟨env, rs⟩ hU2 hV2 ⟨k, hk, hT, e2_7⟩ ih2; simp at hU2 hV2 e2_7
      have hwk := wrap_up (show k < 4611686018427387904 by omega)
      simp [hU0, hV0, e0_3, hU1, hV1, e1_5, hU2, hV2, e2_7]
      refine RB_dec ?_ ?_ <;> intro h7
      · have hkl : k < b.tombs.length := by omega
        simp [hU0, hV0, e0_3, hU1, hV1, e1_5, hU2, hV2, e2_7, h7, hkl, tmpAt]
        refine RB_dec ?_ ?_ <;> intro h8
        · simp
          refine hbad ?_
          have : hasTomb (b.tombs.take i) b.tombs[i].uid = true := by
            unfold hasTomb
            rw [List.any_eq_true]
            exact ⟨b.tombs[k], by rw [List.mem_take_iff_getElem]; exact ⟨k, by omega, rfl⟩, by simpa using h8⟩
          simp [tombsGood, tombGood, this]
        · simp [hU0, hV0, e0_3, hU1, hV1, e1_5, hU2, hV2, e2_7]
          refine ih2 (m2 - 1) _ (by omega) ?_ ?_ ⟨k + 1, by omega, ?_, ?_⟩
          · simp [hU0, hV0, e0_3, hU1, hV1, e1_5, hU2, hV2, e2_7]
          · simp [hU0, hV0, e0_3, hU1, hV1, e1_5, hU2, hV2, e2_7]
          · unfold hasTomb at hT ⊢
            exact any_next (by omega) hT (by simpa using h8)
          · simp [hU0, hV0, e0_3, hU1, hV1, e1_5, hU2, hV2, e2_7, hwk]
      · obtain rfl : k = i := by omega
        by_cases hi0 : 0 < k
        · have hp : IntKind.i64.wrap ((k : Int) - 1) = ((k - 1 : Nat) : Int) := by rw [wrap_in (by omega) (by omega)]; omega
          have hlt : k - 1 < b.tombs.length := by omega
          have hi1 : k ≠ 0 := by omega
          have hmg : tombsGood b k b.tombs[k] = tombGood b (b.tombs.take k) (some b.tombs[k-1]) b.tombs[k] := by simp [tombsGood, prevOf, hi1, hlt]
          simp [hU0, hV0, e0_3, hU1, hV1, e1_5, hU2, hV2, e2_7, h, tmpAt, hi0, hp, hlt]
          repeat' first | (refine RT_dec ?_ ?_ <;> intro hg <;> try simp [tmpAt, hg, hU0, hV0, e0_3, hU1, hV1, e1_5, hU2, hV2, e2_7, h, hp, hlt, hi0]) | (refine RT_split ?_ ?_ <;> intro hg <;> (try simp at hg) <;> try simp [tmpAt, hg, hU0, hV0, e0_3, hU1, hV1, e1_5, hU2, hV2, e2_7, h, hp, hlt, hi0]) | (refine RB_dec ?_ ?_ <;> intro hg <;> try simp [tmpAt, hg, hU0, hV0, e0_3, hU1, hV1, e1_5, hU2, hV2, e2_7, h, hp, hlt, hi0]) | (refine RB_ndec ?_ ?_ <;> intro hg <;> try simp [tmpAt, hg, hU0, hV0, e0_3, hU1, hV1, e1_5, hU2, hV2, e2_7, h, hp, hlt, hi0]) | (refine RB_split ?_ ?_ <;> intro hg <;> (try simp at hg) <;> try simp [tmpAt, hg, hU0, hV0, e0_3, hU1, hV1, e1_5, hU2, hV2, e2_7, h, hp, hlt, hi0]) | (refine RG_dec ?_ ?_ <;> intro hg <;> try simp [tmpAt, hg, hU0, hV0, e0_3, hU1, hV1, e1_5, hU2, hV2, e2_7, h, hp, hlt, hi0]) | (refine RG_split ?_ ?_ <;> intro hg <;> (try simp at hg) <;> try simp [tmpAt, hg, hU0, hV0, e0_3, hU1, hV1, e1_5, hU2, hV2, e2_7, h, hp, hlt, hi0])
          all_goals first
            | (exact hbad (by clear ih0 ih1 ih2; rw [hmg]; simp_all [tombGood, within] <;> omega); done)
            | (refine ih1 (m1 - 1) _ (by omega) ?_ ?_ ⟨k + 1, by omega, upto_next h ha (by clear ih0 ih1 ih2; rw [hmg]; simp_all [tombGood, within] <;> omega), ?_⟩
               · simp [hU0, hV0, e0_3, hU1, hV1, e1_5, hU0, hV0, e0_3, hU1, hV1, e1_5, hU2, hV2, e2_7]
               · simp [hU0, hV0, e0_3, hU1, hV1, e1_5, hU0, hV0, e0_3, hU1, hV1, e1_5, hU2, hV2, e2_7]
               simp [hU0, hV0, e0_3, hU1, hV1, e1_5, hU2, hV2, e2_7, hw])
        · obtain rfl : k = 0 := by omega
          have hmg : tombsGood b 0 b.tombs[0] = tombGood b [] none b.tombs[0] := by simp [tombsGood, prevOf]
          simp [hU0, hV0, e0_3, hU1, hV1, e1_5, hU2, hV2, e2_7, h, tmpAt]
          repeat' first | (refine RT_dec ?_ ?_ <;> intro hg <;> try simp [tmpAt, hg, hU0, hV0, e0_3, hU1, hV1, e1_5, hU2, hV2, e2_7, h]) | (refine RT_split ?_ ?_ <;> intro hg <;> (try simp at hg) <;> try simp [tmpAt, hg, hU0, hV0, e0_3, hU1, hV1, e1_5, hU2, hV2, e2_7, h]) | (refine RB_dec ?_ ?_ <;> intro hg <;> try simp [tmpAt, hg, hU0, hV0, e0_3, hU1, hV1, e1_5, hU2, hV2, e2_7, h]) | (refine RB_ndec ?_ ?_ <;> intro hg <;> try simp [tmpAt, hg, hU0, hV0, e0_3, hU1, hV1, e1_5, hU2, hV2, e2_7, h]) | (refine RB_split ?_ ?_ <;> intro hg <;> (try simp at hg) <;> try simp [tmpAt, hg, hU0, hV0, e0_3, hU1, hV1, e1_5, hU2, hV2, e2_7, h]) | (refine RG_dec ?_ ?_ <;> intro hg <;> try simp [tmpAt, hg, hU0, hV0, e0_3, hU1, hV1, e1_5, hU2, hV2, e2_7, h]) | (refine RG_split ?_ ?_ <;> intro hg <;> (try simp at hg) <;> try simp [tmpAt, hg, hU0, hV0, e0_3, hU1, hV1, e1_5, hU2, hV2, e2_7, h])
          all_goals first
            | (exact hbad (by clear ih0 ih1 ih2; rw [hmg]; simp_all [tombGood, within] <;> omega); done)
            | (refine ih1 (m1 - 1) _ (by omega) ?_ ?_ ⟨0 + 1, by omega, upto_next h ha (by clear ih0 ih1 ih2; rw [hmg]; simp_all [tombGood, within, hasTomb] <;> omega), ?_⟩
               · simp [hU0, hV0, e0_3, hU1, hV1, e1_5, hU0, hV0, e0_3, hU1, hV1, e1_5, hU2, hV2, e2_7]
               · simp [hU0, hV0, e0_3, hU1, hV1, e1_5, hU0, hV0, e0_3, hU1, hV1, e1_5, hU2, hV2, e2_7]
               simp [hU0, hV0, e0_3, hU1, hV1, e1_5, hU2, hV2, e2_7, hw])
    · have hb := upto_all h ha
      simp [hU0, hV0, e0_3, hU1, hV1, e1_5, h]
      have : BoxOK b := ⟨h1, ⟨h2, h3, h4, hg⟩, ⟨hM, h5⟩, ⟨hb, h6⟩⟩
      simp [boxOk, this]
end Go.Proofs.YtomeglmblhfafaaGreatDoor
