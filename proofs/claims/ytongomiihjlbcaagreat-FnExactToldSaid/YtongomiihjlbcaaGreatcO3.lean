/- Told of the reference. -/
import Derived.Test.YtongomiihjlbcaaGreatcO2
set_option linter.unusedSectionVars false
set_option linter.all false
set_option linter.unusedVariables false
set_option linter.unusedSimpArgs false
set_option maxRecDepth 100000
namespace Go.Proofs.YtongomiihjlbcaaGreat
open Go.Lft

set_option maxHeartbeats 8000000 in
theorem eq_sTold (w : World) (hw : szWorld w ≤ 1048576) : lim E 5 [encWorld false false w] = some (.bool (worldTold w), []) := by
  have hz : szWorld w = szStore w.store + szDisk w.disk + (w.sessions.length + tot (fun (y : Session) => szSession y) w.sessions) + (w.mirrors.length + tot (fun (y : List Seen) => y.length) w.mirrors) + szCache w.cache + w.codes.length := rfl
  refine lim_run (E := E) rfl Tryz.func5 rfl (by kernel_rfl) (by kernel_rfl) ?_
  simp [Tryz.f5, tmpAt]
  refine loop_fr [1] [(1,0)] (fun m st => ∃ (i : Nat), i + m = w.sessions.length ∧ toldUpto w i ∧ st.env 3 = .int .i64 i) (w.sessions.length) _ ?_ ?_
  · exact ⟨0, by simp [toldUpto_zero]⟩
  rintro m0 ⟨env, rs⟩ hU0 hV0 ⟨i, hi, ha, e0_3⟩ ih0; simp at hU0 hV0 e0_3
  have hu := wrap_up (show i < 4611686018427387904 by omega)
  by_cases h : i < w.sessions.length
  case neg =>
    have hb := toldUpto_all ha (.inl (by omega))
    simp [hU0, hV0, e0_3, h, hb, tmpAt]
  by_cases h2' : i < w.mirrors.length
  case neg =>
    have hb := toldUpto_all ha (.inr (by omega))
    simp [hU0, hV0, e0_3, h, h2', hb, tmpAt]
  have hsz : szView w.sessions[i].view ≤ tot (fun (y : Session) => szSession y) w.sessions := tot_mem (fun (y : Session) => szSession y) (List.getElem_mem h)
  have hsv : szView w.sessions[i].view ≤ 1048576 := by omega
  cases hon : w.sessions[i].on
  · simp [hU0, hV0, e0_3, h, h2', hon, tmpAt]
    refine ih0 (m0 - 1) _ (by omega) ?_ ?_ ⟨i + 1, by omega, toldUpto_next ha (by intro x m h1 h2; rw [List.getElem?_eq_getElem h] at h1; cases h1; simp [soundAt, hon]), ?_⟩
    · simp [hU0, hV0, e0_3]
    · simp [hU0, hV0, e0_3]
    simp [hU0, hV0, e0_3, hu]
  · have hsm : w.mirrors[i].length ≤ tot (fun (y : List Seen) => y.length) w.mirrors := tot_mem (fun (y : List Seen) => y.length) (List.getElem_mem h2')
    have hm : w.mirrors[i].length ≤ 1048576 := by omega
    have hbz := boxAt_sz w.store w.sessions[i].view.box
    have wa := eq_sBoxAt w.store w.sessions[i].view.box (by omega)
    have hx : soundAt w.store w.sessions[i] w.mirrors[i] = (hasBye (tellView w.sessions[i].view (boxAt w.store w.sessions[i].view.box).1).2 || decide (takeAll w.mirrors[i] (tellView w.sessions[i].view (boxAt w.store w.sessions[i].view.box).1).2 = (boxAt w.store w.sessions[i].view.box).1.mails.map seenOf)) := by simp [soundAt, hon]
    generalize boxAt w.store w.sessions[i].view.box = B at *
    obtain ⟨b, has⟩ := B
    simp only at hbz hx
    have hbz2 : szBox b = b.name.length + (b.mails.length + tot (fun (y : Mail) => szMail y) b.mails) + b.tombs.length := rfl
    have hvz2 : szView w.sessions[i].view = w.sessions[i].view.box.length + w.sessions[i].view.uids.length := rfl
    have wt := eq_sTellView w.sessions[i].view b (by omega) (by omega)
    have hlen := tellView_len w.sessions[i].view b
    generalize tellView w.sessions[i].view b = T at *
    obtain ⟨v2, ls⟩ := T
    simp only at hlen hx
    try simp at wa
    try simp at wt
    simp [hU0, hV0, e0_3, h, h2', hon, tmpAt, wa, wt]
    have key : ∀ l : List Seen, l.length ≤ 1048576 → ∀ x, lim E 17 [.lst false 86 3 (l.map encSeen), encLine false false x] = some (.lst true 86 3 ((takeLine l x).map encSeen), []) := fun l hl x => eq_sTakeLine l x hl
    refine loop_fr [1, 3, 5, 8] [(1,0), (5,0), (47,1)] (fun m st => ∃ (k : Nat) (l : List Seen), k + m = ls.length ∧ l = takeAll w.mirrors[i] (ls.take k) ∧ (st.env 9 = .lst false 86 3 (l.map encSeen) ∨ (st.env 9 = .slc (66,0) [] 0 l.length ∧ st.rs (66,0) = some ⟨false, .lst true 86 3 (l.map encSeen)⟩)) ∧ st.env 10 = .bool (hasBye (ls.take k)) ∧ st.env 11 = .int .i64 k) (ls.length) _ ?_ ?_
    · exact ⟨0, w.mirrors[i], by simp [takeAll, hasBye]⟩
    rintro m1 ⟨env, rs⟩ hU1 hV1 ⟨k, l, hk, hl0, h9, e1_10, e1_11⟩ ih1; simp at hU1 hV1 e1_10 e1_11
    have hl1 : l.length ≤ 1048576 := by rw [hl0]; have := takeAll_len w.mirrors[i] (ls.take k); omega
    have hu2 := wrap_up (show k < 4611686018427387904 by omega)
    simp [hU0, hV0, e0_3, hU1, hV1, e1_10, e1_11]
    refine RB_dec ?_ ?_ <;> intro h4
    · have wk := key l hl1 ls[k]
      try simp at wk
      have hl2 : takeLine l ls[k] = takeAll w.mirrors[i] (ls.take (k + 1)) := by rw [takeAll_next _ _ _ h4, hl0]
      have hb2 := hasBye_next ls k h4
      rcases h9 with h9 | ⟨h9, r9⟩
      · try simp at h9
        cases hby : hasBye (ls.take k)
        all_goals
          rw [hby] at hb2
          simp [hU0, hV0, e0_3, hU1, hV1, e1_10, e1_11, h9, h4, wk, hby, tmpAt]
          refine ih1 (m1 - 1) _ (by omega) ?_ ?_ ⟨k + 1, takeLine l ls[k], by omega, hl2, ?_⟩
          · simp [hU0, hV0, e0_3, hU1, hV1, e1_10, e1_11]
          · simp [hU0, hV0, e0_3, hU1, hV1, e1_10, e1_11]
          simp [hU0, hV0, e0_3, hU1, hV1, e1_10, e1_11, hu2, hb2]
      · try simp at h9 r9
        cases hby : hasBye (ls.take k)
        all_goals
          rw [hby] at hb2
          simp [hU0, hV0, e0_3, hU1, hV1, e1_10, e1_11, h9, r9, h4, wk, hby, tmpAt]
          refine ih1 (m1 - 1) _ (by omega) ?_ ?_ ⟨k + 1, takeLine l ls[k], by omega, hl2, ?_⟩
          · simp [hU0, hV0, e0_3, hU1, hV1, e1_10, e1_11]
          · simp [hU0, hV0, e0_3, hU1, hV1, e1_10, e1_11]
          simp [hU0, hV0, e0_3, hU1, hV1, e1_10, e1_11, hu2, hb2]
    · have hkk : ls.take k = ls := List.take_of_length_le (by omega)
      rw [hkk] at hl0
      simp only [hkk] at *
      have wc := eq_sCacheSameL ⟨b.name, b.valid, b.mod, l⟩ b (by simp only [szCache]; omega) (by omega)
      have hcs : cacheSame ⟨b.name, b.valid, b.mod, l⟩ b = decide (l = b.mails.map seenOf) := by simp [cacheSame]
      rw [hcs] at wc
      try simp at wc
      rcases h9 with h9 | ⟨h9, r9⟩
      · try simp at h9
        cases hby : hasBye ls
        · simp [hU0, hV0, e0_3, hU1, hV1, e1_10, e1_11, h9, h4, hby, tmpAt, wc]
          refine RB_ndec ?_ ?_ <;> intro h5
          · have hb := toldUpto_bad h h2' (by rw [hx, hby, ← hl0]; simp; simpa using h5)
            simp [hU0, hV0, e0_3, hU1, hV1, e1_10, e1_11, hb]
          · simp [hU0, hV0, e0_3, hU1, hV1, e1_10, e1_11]
            refine ih0 (m0 - 1) _ (by omega) ?_ ?_ ⟨i + 1, by omega, toldUpto_next ha (by intro x m h1 h3; rw [List.getElem?_eq_getElem h] at h1; rw [List.getElem?_eq_getElem h2'] at h3; cases h1; cases h3; rw [hx, hby, ← hl0]; simp; simpa using h5), ?_⟩
            · simp [hU0, hV0, e0_3, hU0, hV0, e0_3, hU1, hV1, e1_10, e1_11]
            · simp [hU0, hV0, e0_3, hU0, hV0, e0_3, hU1, hV1, e1_10, e1_11]
            simp [hU0, hV0, e0_3, hU1, hV1, e1_10, e1_11, hu]
        · simp [hU0, hV0, e0_3, hU1, hV1, e1_10, e1_11, h9, h4, hby, tmpAt]
          refine ih0 (m0 - 1) _ (by omega) ?_ ?_ ⟨i + 1, by omega, toldUpto_next ha (by intro x m h1 h3; rw [List.getElem?_eq_getElem h] at h1; rw [List.getElem?_eq_getElem h2'] at h3; cases h1; cases h3; rw [hx, hby]; rfl), ?_⟩
          · simp [hU0, hV0, e0_3, hU0, hV0, e0_3, hU1, hV1, e1_10, e1_11]
          · simp [hU0, hV0, e0_3, hU0, hV0, e0_3, hU1, hV1, e1_10, e1_11]
          simp [hU0, hV0, e0_3, hU1, hV1, e1_10, e1_11, hu]
      · try simp at h9 r9
        cases hby : hasBye ls
        · simp [hU0, hV0, e0_3, hU1, hV1, e1_10, e1_11, h9, r9, h4, hby, tmpAt, wc]
          refine RB_ndec ?_ ?_ <;> intro h5
          · have hb := toldUpto_bad h h2' (by rw [hx, hby, ← hl0]; simp; simpa using h5)
            simp [hU0, hV0, e0_3, hU1, hV1, e1_10, e1_11, hb]
          · simp [hU0, hV0, e0_3, hU1, hV1, e1_10, e1_11]
            refine ih0 (m0 - 1) _ (by omega) ?_ ?_ ⟨i + 1, by omega, toldUpto_next ha (by intro x m h1 h3; rw [List.getElem?_eq_getElem h] at h1; rw [List.getElem?_eq_getElem h2'] at h3; cases h1; cases h3; rw [hx, hby, ← hl0]; simp; simpa using h5), ?_⟩
            · simp [hU0, hV0, e0_3, hU0, hV0, e0_3, hU1, hV1, e1_10, e1_11]
            · simp [hU0, hV0, e0_3, hU0, hV0, e0_3, hU1, hV1, e1_10, e1_11]
            simp [hU0, hV0, e0_3, hU1, hV1, e1_10, e1_11, hu]
        · simp [hU0, hV0, e0_3, hU1, hV1, e1_10, e1_11, h9, r9, h4, hby, tmpAt]
          refine ih0 (m0 - 1) _ (by omega) ?_ ?_ ⟨i + 1, by omega, toldUpto_next ha (by intro x m h1 h3; rw [List.getElem?_eq_getElem h] at h1; rw [List.getElem?_eq_getElem h2'] at h3; cases h1; cases h3; rw [hx, hby]; rfl), ?_⟩
          · simp [hU0, hV0, e0_3, hU0, hV0, e0_3, hU1, hV1, e1_10, e1_11]
          · simp [hU0, hV0, e0_3, hU0, hV0, e0_3, hU1, hV1, e1_10, e1_11]
          simp [hU0, hV0, e0_3, hU1, hV1, e1_10, e1_11, hu]
end Go.Proofs.YtongomiihjlbcaaGreat
