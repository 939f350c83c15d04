/- The law FnTells, at the level of data: true for all data. -/
import Derived.Test.YtoeadcefgpkdcaacP8
import Derived.Test.YtoeadcefgpkdcaacC6
set_option linter.unusedSectionVars false
set_option linter.all false
set_option linter.unusedVariables false
set_option linter.unusedSimpArgs false
set_option maxRecDepth 100000
namespace Go.Proofs.Ytoeadcefgpkdcaa
open Go.Lft

theorem line_nil {v : View} {b : Box} : ∀ x ∈ told v b, x.set_ = [] := by
  have h1 : ∀ (us : List Int) (n : Nat), ∀ x ∈ goneLines b n us, x.set_ = [] := by
    intro us
    induction us with
    | nil => intro n x hx; simp [goneLines] at hx
    | cons u us ih =>
      intro n x hx
      simp only [goneLines] at hx
      split at hx
      · exact ih _ x hx
      · rcases List.mem_cons.1 hx with rfl | hx
        · rfl
        · exact ih _ x hx
  have h2 : ∀ (ms : List Mail) (k : Nat), ∀ x ∈ fetchLines v.mod k ms, x.set_ = [] := by
    intro ms
    induction ms with
    | nil => intro k x hx; simp [fetchLines] at hx
    | cons m ms ih =>
      intro k x hx
      simp only [fetchLines] at hx
      split at hx
      · rcases List.mem_cons.1 hx with rfl | hx
        · rfl
        · exact ih _ x hx
      · exact ih _ x hx
  intro x hx
  unfold told at hx
  rcases List.mem_append.1 hx with hx | hx
  · rcases List.mem_append.1 hx with hx | hx
    · exact h1 _ _ x hx
    · split at hx
      · simp at hx
      · obtain rfl := List.mem_singleton.1 hx; rfl
  · exact h2 _ _ x hx
theorem told_len {v : View} {b : Box} (hv : v.uids.length ≤ 30) (hb : b.mails.length ≤ 30) : (told v b).length ≤ 61 := by
  have h1 := goneLines_len b v.uids 0
  have h2 := fetchLines_len v.mod b.mails 0
  unfold told
  rw [List.length_append, List.length_append]
  split <;> simp <;> omega
theorem takes_len : ∀ (xs : List Line) (l : List Seen), l.length ≤ 30 → (takes l xs).length ≤ 30
  | [], l, h => h
  | x :: xs, l, h => by
    rw [takes_cons]
    refine takes_len xs _ ?_
    unfold takeLine
    split
    · rename_i hc
      have := hc.2
      simp only [within, Bool.and_eq_true, decide_eq_true_eq] at this
      rw [List.length_take]
      omega
    · split
      · simp; omega
      · split
        · simpa using h
        · split
          · simp
          · exact h
set_option maxHeartbeats 4000000 in
theorem law_Tells : ∀ xs, Sh.hasL [.slice 5 1 (.int .u8)] xs → lim E 5 xs = some (.bool true, []) := by
  intro xs h
  obtain ⟨x, s, rfl, g, h⟩ := has_cons h
  obtain rfl := has_nil h
  obtain ⟨code, rfl⟩ := has_code _ _ g
  by_cases hbig : 1048576 < code.length
  · refine lim_run (E := E) rfl Try.func5 rfl (by kernel_rfl) (by kernel_rfl) ?_
    simp [Try.f5, tmpAt, hbig]
  have hc : code.length ≤ 1048576 := by omega
  obtain ⟨v, b, n, hok, hlt, w1⟩ := ex_DrawLater code hc
  try simp at w1
  have hsz := boxOk_sz hok
  have hl := boxOk_lens hok
  have hvl := hlt.len
  have ht := later_tells hok hlt
  have hbx : v.box.length ≤ 8 ∨ True := .inr trivial
  have hvs : szView v ≤ 16777216 := by
    have := hlt.box
    have e : szView v = v.box.length + v.uids.length := rfl
    have hz : szBox b = b.name.length + (b.mails.length + tot (fun (y : Mail) => szMail y) b.mails) + b.tombs.length := rfl
    rw [this] at e; omega
  have w2 := eq_TellView v b hvs (by omega)
  have w3 := eq_sTellView v b hvs (by omega)
  have e1 : tellView v b = (viewOf b, told v b) := by unfold tellView; rw [if_pos ht]
  rw [e1] at w2 w3
  have hvs2 : szView (viewOf b) ≤ 16777216 := by
    have e : szView (viewOf b) = b.name.length + (uidsL b).length := rfl
    have hz : szBox b = b.name.length + (b.mails.length + tot (fun (y : Mail) => szMail y) b.mails) + b.tombs.length := rfl
    rw [uidsL_len] at e; omega
  have w4 := eq_TellView (viewOf b) b hvs2 (by omega)
  rw [view_tells hok] at w4
  have w5 := eq_ViewOk (viewOf b) hvs2
  have hvok : viewOk (viewOf b) = true := (later_tells hok (later_view hok)).1
  rw [hvok] at w5
  have w6 := eq_ViewOf b (by omega)
  have w7 := eq_sameView (viewOf b) (by show (uidsL b).length ≤ _; rw [uidsL_len]; omega)
  have w8 := eq_sameLines (told v b) (by have := told_len (v := v) (b := b) hvl (by omega); omega) (fun x hx => by rw [line_nil x hx]; simp)
  obtain ⟨mt1, mt2⟩ := mirror_told hok hlt
  have htl := told_len (v := v) (b := b) hvl (by omega)
  have hnx : ∀ i (h : i < (told v b).length), _ := fun i h => takes_next (v.uids.map seen0) (told v b) i h
  have htk : ∀ i, (takes (v.uids.map seen0) ((told v b).take i)).length ≤ 30 := fun i => takes_len _ _ (by simpa using hvl)
  have hsl : ∀ (i : Nat) (h : i < (told v b).length), ((told v b)[i]).set_ = [] := fun i h => line_nil _ (List.getElem_mem h)
  generalize told v b = ls at *
  generalize hW : viewOf b = W at *
  try simp at w2
  try simp at w3
  try simp at w4
  try simp at w5
  try simp at w6
  try simp at w7
  try simp at w8
  refine lim_run (E := E) rfl Try.func5 rfl (by kernel_rfl) (by kernel_rfl) ?_
  simp [Try.f5, tmpAt, hbig, w1]
  refine loop_fr [3, 4] [(3,0), (4,0)] (fun m st => ∃ (i r : Nat) (us : List Seen), i + m = v.uids.length ∧ (r = 22 ∨ r = 38) ∧ us = (v.uids.take i).map seen0 ∧ st.env 5 = .slc (r,0) [] 0 us.length ∧ st.rs (r,0) = some ⟨false, .lst true 55 3 (us.map encSeen)⟩ ∧ st.env 6 = .int .i64 i) (v.uids.length) _ ?_ ?_
  · exact ⟨0, 22, [], by simp⟩
  rintro m0 ⟨env, rs⟩ hU0 hV0 ⟨i, r, us, hi, hr, hus, e5, q5, e0_6⟩ ih0; simp at hU0 hV0 e0_6
  simp at e5 q5
  have hw := wrap_up (show i < 4611686018427387904 by omega)
  have hul : us.length ≤ 30 := by rw [hus]; simp; omega
  have hb : (us.length + 1) * 24 ≤ 140737488351232 := by omega
  simp [hU0, hV0, e0_6]
  refine RB_dec ?_ ?_ <;> intro h
  · have hn := take_map_next seen0 v.uids i h
    rw [← hus] at hn
    rcases hr with rfl | rfl
    all_goals
      simp [hU0, hV0, e0_6, h, e5, q5, hb]
      repeat (refine And.intro (by first | omega | (simp; omega)) ?_)
      refine ih0 (m0 - 1) _ (by omega) ?_ ?_ ⟨i + 1, 38, us ++ [seen0 v.uids[i]], by omega, by simp, hn.symm, ?_⟩
      · simp [hU0, hV0, e0_6, h]
      · simp [hU0, hV0, e0_6, h]
      simp [hU0, hV0, e0_6, hw, seen0]
  · rw [List.take_of_length_le (by omega)] at hus
    subst hus
    simp [hU0, hV0, e0_6, h, w2, w3]
    refine loop_fr [3, 4, 7, 8, 9, 10] [(3,0), (4,0), (7,0), (9,0), (42,1), (48,1)] (fun m st => ∃ (i r : Nat) (us : List Seen), i + m = ls.length ∧ (r = 22 ∨ r = 38 ∨ r = 62) ∧ us = takes (v.uids.map seen0) (ls.take i) ∧ st.env 5 = .slc (r,0) [] 0 us.length ∧ st.rs (r,0) = some ⟨false, .lst true 55 3 (us.map encSeen)⟩ ∧ st.env 11 = .int .i64 i) (ls.length) _ ?_ ?_
    · rcases hr with rfl | rfl
      · exact ⟨0, 22, v.uids.map seen0, by simp, by simp, rfl, by simp [e5, q5]⟩
      · exact ⟨0, 38, v.uids.map seen0, by simp, by simp, rfl, by simp [e5, q5]⟩
    rintro m1 ⟨env, rs⟩ hU1 hV1 ⟨i, r, us, hi, hr, hus, e5, q5, e1_11⟩ ih1; simp at hU1 hV1 e1_11
    simp at e5 q5
    have hw := wrap_up (show i < 4611686018427387904 by omega)
    have hul : us.length ≤ 30 := by rw [hus]; exact htk i
    simp [hU0, hV0, e0_6, hU1, hV1, e1_11]
    refine RB_dec ?_ ?_ <;> intro h
    · have hn := hnx i h
      rw [← hus] at hn
      have wt := eq_TakeLine us ls[i] (by omega)
      have hs := hsl i h
      try simp at wt
      rcases hr with rfl | rfl | rfl
      all_goals
        simp [hU0, hV0, e0_6, hU1, hV1, e1_11, h, e5, q5, wt, tmpAt]
        refine ih1 (m1 - 1) _ (by omega) ?_ ?_ ⟨i + 1, 62, takeLine us ls[i], by omega, by simp, hn.symm, ?_⟩
        · simp [hU0, hV0, e0_6, hU1, hV1, e1_11, h]
        · simp [hU0, hV0, e0_6, hU1, hV1, e1_11, h]
        simp [hU0, hV0, e0_6, hU1, hV1, e1_11, hw]
    · rw [List.take_of_length_le (by omega)] at hus
      rw [← hus] at mt1
      simp only [← hus] at mt2
      have hW2 : W.uids.length = b.mails.length := by rw [← hW]; exact uidsL_len b
      simp [hU0, hV0, e0_6, hU1, hV1, e1_11, h, w7, w8, e5, mt1, tmpAt]
      refine loop_fr [3, 4, 5, 7] [(3,0), (4,0), (7,0), (r,0)] (fun m st => ∃ (k : Nat), k + m = us.length ∧ st.env 12 = .int .i64 k) (us.length) _ ?_ ?_
      · exact ⟨0, by simp [mt1, e5, q5]⟩
      rintro m2 ⟨env, rs⟩ hU2 hV2 ⟨k, hk, e2_12⟩ ih2; simp at hU2 hV2 e2_12
      have hw := wrap_up (show k < 4611686018427387904 by omega)
      simp [hU0, hV0, e0_6, hU1, hV1, e1_11, hU2, hV2, e2_12, e5, q5]
      refine RB_dec ?_ ?_ <;> intro h
      · have h' : k < b.mails.length := by omega
        obtain ⟨u1, u2⟩ := mt2 k h h'
        by_cases hmm : v.mod < b.mails[k].mod
        · have u3 := u2 hmm
          simp [hU0, hV0, e0_6, hU1, hV1, e1_11, hU2, hV2, e2_12, h, h', e5, q5, u1, u3, hmm, tmpAt]
          refine ih2 (m2 - 1) _ (by omega) ?_ ?_ ⟨k + 1, by omega, ?_⟩
          · simp [hU0, hV0, e0_6, hU1, hV1, e1_11, hU2, hV2, e2_12, h]
          · simp [hU0, hV0, e0_6, hU1, hV1, e1_11, hU2, hV2, e2_12, h]
          simp [hU0, hV0, e0_6, hU1, hV1, e1_11, hU2, hV2, e2_12, hw]
        · simp [hU0, hV0, e0_6, hU1, hV1, e1_11, hU2, hV2, e2_12, h, h', e5, q5, u1, hmm, tmpAt]
          refine ih2 (m2 - 1) _ (by omega) ?_ ?_ ⟨k + 1, by omega, ?_⟩
          · simp [hU0, hV0, e0_6, hU1, hV1, e1_11, hU2, hV2, e2_12, h]
          · simp [hU0, hV0, e0_6, hU1, hV1, e1_11, hU2, hV2, e2_12, h]
          simp [hU0, hV0, e0_6, hU1, hV1, e1_11, hU2, hV2, e2_12, hw]
      · simp [hU0, hV0, e0_6, hU1, hV1, e1_11, hU2, hV2, e2_12, h, w4, w5, w6, w7, tmpAt]
        exact trOk_unord (L := [(8, 9), (8, 10)]) (by kernel_rfl) (by simp) (by simp [indepAt, indep, spares, around, pre, isSlc, Tr.feels, Tr.all, moves, bare, opData, isExt, cmpOf, Op.operands, Call.operands, mentL, ment, D.noUndefL, D.noUndef, pureE, hU0, hV0, e0_6, hU1, hV1, e1_11, hU2, hV2, e2_12])
end Go.Proofs.Ytoeadcefgpkdcaa
