/- The law FnMovesMails, at the level of data: true for all data. -/
import Derived.Test.YtoeadcefgpkdcaacH9
import Derived.Test.YtoeadcefgpkdcaacLCopiesMails
set_option linter.unusedSectionVars false
set_option linter.all false
set_option linter.unusedVariables false
set_option linter.unusedSimpArgs false
set_option maxRecDepth 100000
namespace Go.Proofs.Ytoeadcefgpkdcaa
open Go.Lft

theorem flags_uids (b : Box) (s : List Range) (how bits since : Int) : (setFlags b s how bits since).1.mails.map (·.uid) = b.mails.map (·.uid) := by
  unfold setFlags
  split
  · show (b.mails.map (flagged b s how bits since)).map (·.uid) = _
    rw [List.map_map]
    refine List.map_congr_left fun m _ => ?_
    simp only [Function.comp, flagged]
    split <;> rfl
  · rfl
theorem non_kept {M : Box} (s : List Range) : (expunge M s).1.mails.filter (fun m => !setHas s m.uid) = M.mails.filter fun m => !setHas s m.uid := by
  unfold expunge
  split
  · show (keptM s M.mails).filter _ = _
    unfold keptM
    rw [List.filter_filter]
    refine List.filter_congr fun m _ => ?_
    cases hh : setHas s m.uid
    · simp [isGone, hh]
    · simp
  · rfl
theorem half_count (s : List Range) : ∀ ms : List Mail, (ms.filter fun m => setHas s m.uid).length + (ms.filter fun m => !setHas s m.uid).length = ms.length
  | [] => rfl
  | m :: ms => by
    have := half_count s ms
    rw [List.filter_cons, List.filter_cons]
    cases setHas s m.uid <;> simp <;> omega
theorem move_fails {s : Store} {a z : S} {set_ : List Range} (h : (moveMails s a set_ z).2 ≠ 0) : (moveMails s a set_ z).1 = s := by
  unfold moveMails at h ⊢
  split
  · rfl
  · rename_i h1
    rw [if_neg h1] at h
    split
    · rfl
    · rename_i h2
      rw [if_neg h2] at h
      split
      · rfl
      · rename_i h3
        rw [if_neg h3] at h
        exact absurd rfl h
theorem moves {s A : Store} {set_ : List Range} (hg : Good s) (hset : setOk set_ = true) (h : makeBox s newN = (A, 0)) (hA : storeOk A = true) (h1 : boxAt A newN = (boxNew newN s.valid, true)) (h2 : ∀ b ∈ s.boxes, boxAt A b.name = (b, true) ∧ b.valid < s.valid) (h0 : (moveMails A inboxN set_ newN).2 = 0) :
    ∃ (F X b : Box) (P : Store), boxAt A inboxN = (F, true) ∧ boxOk F = true ∧ moveMails A inboxN set_ newN = (P, 0) ∧ storeOk P = true ∧ boxAt P inboxN = (X, true) ∧ boxAt P newN = (b, true) ∧ boxOk X = true ∧ boxOk b = true ∧ (∀ m ∈ F.mails, decide (m.uid ∈ uidsL X) = !setHas set_ m.uid) ∧ X.mails.length + b.mails.length = F.mails.length := by
  obtain ⟨F, b, O, f1, f2, f3, f4, f5, f6, f7, f8, _⟩ := copies hg hset h hA h1 h2
  have hch := move_check' f4 inboxN set_
  have hne : ¬ inboxN = newN := by decide
  have e : moveMails A inboxN set_ newN = if sizeS (sAdds (moveFrom O inboxN set_).2) ≠ (((boxAt O inboxN).1.mails.filter fun m => setHas set_ m.uid).length : Int) then (A, 3) else (putBox O (moveFrom O inboxN set_).1, 0) := by
    unfold moveMails
    rw [if_neg hne, f3]
    simp
  have hsz : ¬ sizeS (sAdds (moveFrom O inboxN set_).2) ≠ (((boxAt O inboxN).1.mails.filter fun m => setHas set_ m.uid).length : Int) := by
    intro hc
    rw [e, if_pos hc] at h0
    simp at h0
  have hnone : (moveFrom O inboxN set_).1.mails.any (fun m => setHas set_ m.uid) = false := by
    cases hc : (moveFrom O inboxN set_).1.mails.any (fun m => setHas set_ m.uid)
    · rfl
    · exact absurd (hch.1 hc) hsz
  rw [if_neg hsz] at e
  have hX : (moveFrom O inboxN set_).1 = (expunge (setFlags F set_ 2 8 (-1)).1 set_).1 := by unfold moveFrom; rw [f5]
  rw [hX] at e hnone
  have s1 := same_flags F set_ 2 8 (-1)
  have s2 := same_exp (setFlags F set_ 2 8 (-1)).1 set_
  have u1 := flags_uids F set_ 2 8 (-1)
  have u2 := non_kept (M := (setFlags F set_ 2 8 (-1)).1) set_
  have u3 := flags_count F set_ 2 8 (-1) set_
  have u4 := half_count set_ (setFlags F set_ 2 8 (-1)).1.mails
  have u5 := congrArg List.length u1
  rw [List.length_map, List.length_map] at u5
  have hMok : boxOk (setFlags F set_ 2 8 (-1)).1 = true := setFlags_ok f2
  have hXok : boxOk (expunge (setFlags F set_ 2 8 (-1)).1 set_).1 = true := expunge_ok hMok
  generalize (setFlags F set_ 2 8 (-1)).1 = M at *
  generalize (expunge M set_).1 = X at *
  have hFn : F.name = inboxN := by have := (boxAt_mem (s := A) (n := inboxN) (by rw [f1])).2; rwa [f1] at this
  have hbn : b.name = newN := by have := (boxAt_mem (s := O) (n := newN) (by rw [f6])).2; rwa [f6] at this
  have hFO : F ∈ O.boxes := by have := (boxAt_mem (s := O) (n := inboxN) (by rw [f5])).1; rwa [f5] at this
  have hbO : b ∈ O.boxes := by have := (boxAt_mem (s := O) (n := newN) (by rw [f6])).1; rwa [f6] at this
  have hXn : F.name = X.name := by rw [s2.1, s1.1]
  have hXv : F.valid = X.valid := by rw [s2.2, s1.2]
  obtain ⟨q1, q2⟩ := put_has f4 hXok hFO hXn hXv
  have q3 := q2 b hbO (by rw [hbn, ← hXn, hFn]; decide)
  rw [← hXn, hFn] at q1
  rw [hbn] at q3
  rw [List.any_eq_false] at hnone
  have hXall : X.mails.filter (fun m => !setHas set_ m.uid) = X.mails := List.filter_eq_self.2 fun m hm => by simp [hnone m hm]
  rw [hXall] at u2
  refine ⟨F, X, b, putBox O X, f1, f2, e, (putBox_ok f4 hXok hFO hXn hXv).1, q1, q3, hXok, f7, ?_, ?_⟩
  · intro m hm
    have hmu : m.uid ∈ M.mails.map (·.uid) := by rw [u1]; exact List.mem_map.2 ⟨m, hm, rfl⟩
    cases hh : setHas set_ m.uid
    · obtain ⟨y, hy, hyu⟩ := List.mem_map.1 hmu
      have : y ∈ X.mails := by
        rw [u2]
        refine List.mem_filter.2 ⟨hy, ?_⟩
        rw [hyu, hh]; rfl
      have : m.uid ∈ uidsL X := List.mem_map.2 ⟨y, this, hyu⟩
      simp [this]
    · have : m.uid ∉ uidsL X := by
        intro hc
        obtain ⟨y, hy, hyu⟩ := List.mem_map.1 hc
        exact hnone y hy (by rw [hyu]; exact hh)
      simp [this]
  · have h8 := congrArg List.length f8
    rw [List.length_map, List.length_map] at h8
    rw [u2]
    omega
set_option maxHeartbeats 4000000 in
theorem law_MovesMails : ∀ xs, Sh.hasL [.slice 5 1 (.int .u8)] xs → lim E 11 xs = some (.bool true, []) := by
  intro xs h
  obtain ⟨x, s, rfl, g, h⟩ := has_cons h
  obtain rfl := has_nil h
  obtain ⟨code, rfl⟩ := has_code _ _ g
  by_cases hbig : 1048576 < code.length
  · refine lim_run (E := E) rfl Try.func11 rfl (by kernel_rfl) (by kernel_rfl) ?_
    simp [Try.f11, tmpAt, hbig]
  have hc : code.length ≤ 1048576 := by omega
  obtain ⟨s, hg, w1⟩ := ex_DrawStore code hc
  try simp at w1
  have hs := storeOk_sz hg.ok
  obtain ⟨⟨set_, set2⟩, ⟨hset, _⟩, w2⟩ := ex_DrawSets code hc
  simp at hset w2
  have hsl := setOk_40 hset
  have w3 := eq_MakeBox s newN (by omega) (by decide)
  rcases make_new hg with ⟨e1, e2⟩ | ⟨A, dd, e1, e2, e3, e4, _⟩
  · rw [e1] at w3
    unfold newN at w3
    try simp at w3
    refine lim_run (E := E) rfl Try.func11 rfl (by kernel_rfl) (by kernel_rfl) ?_
    simp [Try.f11, tmpAt, hbig, w1, w2, w3]
  · rw [e1] at w3
    have hA := storeOk_sz e2
    have w4 := eq_MoveMails A inboxN set_ newN (by omega) (by omega)
    have w5 := eq_sMoveMails A inboxN set_ newN (by omega) (by omega)
    by_cases h0 : (moveMails A inboxN set_ newN).2 = 0
    case neg =>
      rw [move_fails h0] at w4 w5
      have w6 := eq_sSameStore A A (by omega)
      generalize (moveMails A inboxN set_ newN).2 = code2 at *
      unfold newN at w3 w4 w5
      unfold inboxN at w4 w5
      try simp at w3
      try simp at w4
      try simp at w5
      try simp at w6
      refine lim_run (E := E) rfl Try.func11 rfl (by kernel_rfl) (by kernel_rfl) ?_
      simp [Try.f11, tmpAt, hbig, w1, w2, w3, w4, w5, w6, h0]
    obtain ⟨F, X, b, P, f1, f2, f3, f4, f5, f6, f7, f8, f9, f10⟩ := moves hg hset e1 e2 e3 e4 h0
    rw [f3] at w4 w5
    have hP := storeOk_sz f4
    have w6 := eq_sSameStore P P (by omega)
    have w7 := eq_sBoxAt A inboxN (by omega)
    rw [f1] at w7
    have w8 := eq_sBoxAt P inboxN (by omega)
    rw [f5] at w8
    have w9 := eq_sBoxAt P newN (by omega)
    rw [f6] at w9
    have hsame : moveMails A inboxN set_ inboxN = (A, 4) := by unfold moveMails; rw [if_pos rfl]
    have w10 := eq_MoveMails A inboxN set_ inboxN (by omega) (by omega)
    rw [hsame] at w10
    have w11 := eq_StoreOk P (by omega)
    rw [f4] at w11
    have hXl := boxOk_lens f7
    have hFl := boxOk_lens f2
    have hbl := boxOk_lens f8
    have w12 := eq_uids X (by omega)
    unfold newN at w3 w4 w5 w9
    unfold inboxN at w4 w5 w7 w8 w10
    try simp at w3
    try simp at w4
    try simp at w5
    try simp at w6
    try simp at w7
    try simp at w8
    try simp at w9
    try simp at w10
    try simp at w11
    try simp at w12
    refine lim_run (E := E) rfl Try.func11 rfl (by kernel_rfl) (by kernel_rfl) ?_
    simp [Try.f11, tmpAt, hbig, w1, w2, w3, w4, w5, w6, w7, w8, w9]
    refine loop_fr [3, 4, 7, 11, 13, 15] [(3,0), (7,0), (11,0), (13,0), (15,0), (26,0)] (fun m st => ∃ (i : Nat), i + m = F.mails.length ∧ st.env 17 = .int .i64 i) (F.mails.length) _ ?_ ?_
    · exact ⟨0, by simp⟩
    rintro m0 ⟨env, rs⟩ hU0 hV0 ⟨i, hi, e0_17⟩ ih0; simp at hU0 hV0 e0_17
    have hw := wrap_up (show i < 4611686018427387904 by omega)
    simp [hU0, hV0, e0_17]
    refine RB_dec ?_ ?_ <;> intro h
    · have z1 := eq_sSetHas set_ F.mails[i].uid (by omega)
      have z2 := eq_in (uidsL X) F.mails[i].uid (by rw [uidsL_len]; omega)
      rw [f9 _ (List.getElem_mem h)] at z2
      cases hh : setHas set_ F.mails[i].uid
      · rw [hh] at z1 z2
        try simp at z2
        simp [hU0, hV0, e0_17, h, z1, z2, w12, tmpAt]
        refine ⟨trOk_unord (L := [(0, 1), (0, 2), (0, 3), (0, 4), (0, 5), (0, 6), (0, 8), (0, 10), (0, 11), (0, 12), (0, 13), (0, 14), (0, 15), (1, 3), (1, 8), (1, 10), (1, 11), (1, 12), (1, 13), (1, 14), (1, 15), (2, 3), (2, 8), (2, 10), (2, 11), (2, 12), (2, 13), (2, 14), (2, 15), (3, 8), (3, 10), (3, 11), (3, 12), (3, 13), (3, 14), (3, 15), (4, 8), (4, 10), (4, 11), (4, 12), (4, 13), (4, 14), (4, 15), (5, 8), (5, 10), (5, 11), (5, 12), (5, 13), (5, 14), (5, 15), (6, 8), (6, 10), (6, 11), (6, 12), (6, 13), (6, 14), (6, 15), (7, 8), (7, 10), (7, 11), (7, 12), (7, 13), (7, 14), (7, 15), (8, 10), (8, 11), (8, 12), (8, 13), (8, 14), (8, 15), (9, 10), (9, 11), (9, 12), (9, 13), (9, 14), (9, 15), (10, 12), (11, 12)]) (by kernel_rfl) (by simp) (by simp [indepAt, indep, spares, around, pre, isSlc, Tr.feels, Tr.all, moves, bare, opData, isExt, cmpOf, Op.operands, Call.operands, mentL, ment, D.noUndefL, D.noUndef, pureE, hU0, hV0, e0_17]), ?_⟩
        refine ih0 (m0 - 1) _ (by omega) ?_ ?_ ⟨i + 1, by omega, ?_⟩
        · simp [hU0, hV0, e0_17, h]
        · simp [hU0, hV0, e0_17, h]
        simp [hU0, hV0, e0_17, hw]
      · rw [hh] at z1 z2
        try simp at z2
        simp [hU0, hV0, e0_17, h, z1, z2, w12, tmpAt]
        refine ⟨trOk_unord (L := [(0, 1), (0, 2), (0, 3), (0, 4), (0, 5), (0, 6), (0, 8), (0, 10), (0, 11), (0, 12), (0, 13), (0, 14), (0, 15), (1, 3), (1, 8), (1, 10), (1, 11), (1, 12), (1, 13), (1, 14), (1, 15), (2, 3), (2, 8), (2, 10), (2, 11), (2, 12), (2, 13), (2, 14), (2, 15), (3, 8), (3, 10), (3, 11), (3, 12), (3, 13), (3, 14), (3, 15), (4, 8), (4, 10), (4, 11), (4, 12), (4, 13), (4, 14), (4, 15), (5, 8), (5, 10), (5, 11), (5, 12), (5, 13), (5, 14), (5, 15), (6, 8), (6, 10), (6, 11), (6, 12), (6, 13), (6, 14), (6, 15), (7, 8), (7, 10), (7, 11), (7, 12), (7, 13), (7, 14), (7, 15), (8, 10), (8, 11), (8, 12), (8, 13), (8, 14), (8, 15), (9, 10), (9, 11), (9, 12), (9, 13), (9, 14), (9, 15), (10, 12), (11, 12)]) (by kernel_rfl) (by simp) (by simp [indepAt, indep, spares, around, pre, isSlc, Tr.feels, Tr.all, moves, bare, opData, isExt, cmpOf, Op.operands, Call.operands, mentL, ment, D.noUndefL, D.noUndef, pureE, hU0, hV0, e0_17]), ?_⟩
        refine ih0 (m0 - 1) _ (by omega) ?_ ?_ ⟨i + 1, by omega, ?_⟩
        · simp [hU0, hV0, e0_17, h]
        · simp [hU0, hV0, e0_17, h]
        simp [hU0, hV0, e0_17, hw]
    · have hsum : IntKind.i64.wrap ((X.mails.length : Int) + b.mails.length) = (F.mails.length : Int) := by rw [wrap_in (by omega) (by omega)]; omega
      simp [hU0, hV0, e0_17, h, w10, w11, hsum, tmpAt]
end Go.Proofs.Ytoeadcefgpkdcaa
