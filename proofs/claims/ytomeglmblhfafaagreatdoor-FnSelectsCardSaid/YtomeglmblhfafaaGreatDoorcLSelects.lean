/- The law FnSelects, at the level of data: true for all data. -/
import Derived.Test.YtomeglmblhfafaaGreatDoorcSV2
import Derived.Test.YtomeglmblhfafaaGreatDoorcSN
set_option linter.unusedSectionVars false
set_option linter.all false
set_option linter.unusedVariables false
set_option linter.unusedSimpArgs false
set_option maxRecDepth 100000
namespace Go.Proofs.YtomeglmblhfafaaGreatDoor
open Go.Lft

theorem tk_len : ∀ (xs : List Line) (l : List Seen), l.length ≤ 30 → (takes l xs).length ≤ 30
  | [], l, h => h
  | x :: xs, l, h => by
    rw [takes_cons]
    refine tk_len xs _ ?_
    unfold takeLine
    split
    · rename_i hc
      have := hc.2
      simp only [within, Bool.and_eq_true, decide_eq_true_eq] at this
      rw [List.length_take]
      omega
    · split
      · simp; omega
      · split
        · simpa using h
        · split
          · simp
          · exact h
theorem takes_sel {b : Box} (hok : boxOk b = true) : takes [] (selLines b) = b.mails.map seenM := by
  have hml := (boxOk_lens hok).1
  have hn : ∀ m ∈ b.mails, 0 < m.mod := by
    intro m hm
    rw [boxOk_iff] at hok
    obtain ⟨_, _, _, _, _, hq, _⟩ := hok
    have := hq m hm
    unfold MailFine at this
    omega
  unfold selLines
  rw [takes_cons, takes_cons, takes_append]
  have h1 : takeLine [] (lnValid b true) = [] := by unfold takeLine lnValid; simp
  rw [h1, take_exists [] b.mails.length (by simp) hml]
  simp only [List.nil_append, List.length_nil, Nat.sub_zero]
  obtain ⟨e1, e2⟩ := takes_fetch 0 b.mails 0 (List.replicate b.mails.length (⟨0, 0, 0⟩ : Seen)) (by simp)
  have h2 : takes (takes (List.replicate b.mails.length (⟨0, 0, 0⟩ : Seen)) (fetchLines 0 0 b.mails)) [lnOk] = takes (List.replicate b.mails.length (⟨0, 0, 0⟩ : Seen)) (fetchLines 0 0 b.mails) := by
    show takeLine _ lnOk = _
    unfold takeLine lnOk
    simp
  rw [h2]
  apply List.ext_getElem?
  intro i
  rw [e2 i]
  simp only [Nat.zero_le, if_true, Nat.sub_zero, List.getElem?_map]
  cases h : b.mails[i]? with
  | none =>
    have : b.mails.length ≤ i := by simpa using h
    simp only [Option.map_none]
    rw [List.getElem?_eq_none]; simpa using this
  | some m =>
    simp only [Option.map_some]
    rw [if_pos (hn m (List.mem_of_getElem? h))]
    rfl
theorem sel_sets {b : Box} : ∀ x ∈ selLines b, x.set_ = [] := by
  have h2 : ∀ (ms : List Mail) (k : Nat), ∀ x ∈ fetchLines 0 k ms, x.set_ = [] := by
    intro ms
    induction ms with
    | nil => intro k x hx; simp [fetchLines] at hx
    | cons m ms ih =>
      intro k x hx
      simp only [fetchLines] at hx
      split at hx
      · rcases List.mem_cons.1 hx with rfl | hx
        · rfl
        · exact ih _ x hx
      · exact ih _ x hx
  intro x hx
  unfold selLines at hx
  rcases List.mem_cons.1 hx with rfl | hx
  · rfl
  rcases List.mem_cons.1 hx with rfl | hx
  · rfl
  rcases List.mem_append.1 hx with hx | hx
  · exact h2 _ _ x hx
  · obtain rfl := List.mem_singleton.1 hx; rfl
theorem sel_len {b : Box} (hok : boxOk b = true) : (selLines b).length = b.mails.length + 3 := by
  have hn : ∀ m ∈ b.mails, 0 < m.mod := by
    intro m hm
    rw [boxOk_iff] at hok
    obtain ⟨_, _, _, _, _, hq, _⟩ := hok
    have := hq m hm
    unfold MailFine at this
    omega
  unfold selLines
  simp [fetchLines_all b.mails 0 hn]
theorem boxAt_has {s : Store} {n : S} (h : n ∈ namesOf s) : (boxAt s n).2 = true := by
  unfold namesOf at h
  obtain ⟨b, hb, hn⟩ := List.mem_map.1 h
  unfold boxAt
  cases hf : s.boxes.find? (isNamed n) with
  | some c => rfl
  | none =>
    have := List.find?_eq_none.1 hf b hb
    simp [isNamed, hn] at this
set_option maxHeartbeats 4000000 in
theorem law_Selects : ∀ xs, Sh.hasL [.slice 5 1 (.int .u8)] xs → lim E 3 xs = some (.bool true, []) := by
  intro xs h
  obtain ⟨x, s, rfl, g, h⟩ := has_cons h
  obtain rfl := has_nil h
  obtain ⟨code, rfl⟩ := has_code _ _ g
  by_cases hbig : 1048576 < code.length
  · refine lim_run (E := E) rfl Tryz.func3 rfl (by kernel_rfl) (by kernel_rfl) ?_
    simp [Tryz.f3, tmpAt, hbig]
  have hc : code.length ≤ 1048576 := by omega
  obtain ⟨s, hg, w1⟩ := ex_DrawStore code hc
  try simp at w1
  have hs := storeOk_sz hg.ok
  have hb := boxAt_has hg.inbox
  have w2 := eq_ServeSelect zeroSession inboxN hg.ok hb
  have w3 := eq_sBoxAt s inboxN (by omega)
  rw [hb] at w3
  rcases boxAt_cases hg.ok inboxN with ⟨q1, q2, q3, q4⟩ | ⟨q1, q2⟩
  case inr => rw [hb] at q1; cases q1
  have w4 := eq_ServeClose ⟨true, viewOf (boxAt s inboxN).1⟩ hg.ok
  generalize (boxAt s inboxN).1 = b at *
  unfold inboxN at w2 w3
  try simp at w2
  try simp at w3
  try simp [lnOk] at w4
  have hml := (boxOk_lens q4).1
  have hT := takes_sel q4
  have hS := sel_sets (b := b)
  have hL := sel_len q4
  have w5 := eq_sViewOf b (by omega)
  try simp at w5
  have w6 := eq_sameView (viewOf b) (by show (uidsL b).length ≤ _; rw [uidsL_len]; omega)
  try simp at w6
  have w7 := eq_seens b (by omega)
  have w8 := eq_sameSeens (b.mails.map seenM) (by simp; omega)
  generalize b.mails.map seenM = SM at *
  try simp at w7
  try simp at w8
  have htk : ∀ i, (takes [] ((selLines b).take i)).length ≤ 30 := fun i => tk_len _ _ (by simp)
  have hnx : ∀ i (h : i < (selLines b).length), takes [] ((selLines b).take (i + 1)) = takeLine (takes [] ((selLines b).take i)) (selLines b)[i] := fun i h => takes_next _ _ i h
  have hsl : ∀ (i : Nat) (h : i < (selLines b).length), ((selLines b)[i]).set_ = [] := fun i h => hS _ (List.getElem_mem h)
  have hfull : (selLines b).take (selLines b).length = selLines b := List.take_length
  generalize hSL : selLines b = SL at *
  have hSLl : SL.length ≤ 40 := by omega
  have hw3 : IntKind.i64.wrap ((b.mails.length : Int) + 3) = b.mails.length + 3 := wrap_in (by omega) (by omega)
  refine lim_run (E := E) rfl Tryz.func3 rfl (by kernel_rfl) (by kernel_rfl) ?_
  simp [Tryz.f3, tmpAt, hbig, w1, w2, w3]
  refine loop_fr [3, 5, 6, 8] [(3,0), (5,0), (8,0), (24,2)] (fun m st => ∃ (i r : Nat) (Mi : List Seen), i + m = SL.length ∧ (r = 34 ∨ r = 46) ∧ Mi = takes [] (SL.take i) ∧ st.env 10 = .slc (r,0) [] 0 Mi.length ∧ st.rs (r,0) = some ⟨false, .lst true 104 3 (Mi.map encSeen)⟩ ∧ st.env 11 = .int .i64 i) (SL.length) _ ?_ ?_
  · exact ⟨0, 34, [], by simp [takes]⟩
  rintro m0 ⟨env, rs⟩ hU0 hV0 ⟨i, r, Mi, hi, hr, hM, e10, q10, e0_11⟩ ih0; simp at hU0 hV0 e0_11
  simp at e10 q10
  have hu := wrap_up (show i < 4611686018427387904 by omega)
  have htki := htk i
  rw [← hM] at htki
  simp [hU0, hV0, e0_11]
  refine RB_dec ?_ ?_ <;> intro h
  · have hnxi := hnx i h
    rw [← hM] at hnxi
    have hsli := hsl i h
    have wt := eq_TakeLine Mi SL[i] (by clear hr hu; omega)
    simp only [encLine, hsli] at wt
    try simp at wt
    rcases hr with rfl | rfl
    all_goals
      simp [hU0, hV0, e0_11, h, e10, q10, hu, hsli, wt]
      refine ih0 (m0 - 1) _ (by omega) ?_ ?_ ⟨i + 1, 46, takeLine Mi SL[i], by omega, .inr rfl, hnxi.symm, ?_⟩
      · simp [hU0, hV0, e0_11]
      · simp [hU0, hV0, e0_11]
      simp [hU0, hV0, e0_11, hu]
  · have hil : i = SL.length := by clear hr hu; omega
    subst hil
    rw [hfull, hT] at hM
    subst hM
    rcases hr with rfl | rfl
    all_goals
      simp [hU0, hV0, e0_11, h, e10, q10, w4, w5, w6, w7, w8, hL, tmpAt, hw3]
      exact trOk_few [6, 7, 12, 13] (L := [(3, 6), (4, 6), (10, 12)]) (by kernel_rfl) (by simp) (by first | kernel_rfl | rfl) (by simp [indepAt, indep, spares, around, aside, pre, isSlc, Tr.feels, Tr.all, moves, bare, opData, isExt, cmpOf, Op.operands, Call.operands, mentL, ment, D.noUndefL, D.noUndef, pureE, hU0, hV0, e0_11, e10])
end Go.Proofs.YtomeglmblhfafaaGreatDoor
