/- The law FnBoxes, at the level of data: true for all data. -/
import Derived.Test.YtoeadcefgpkdcaacH8
import Derived.Test.YtoeadcefgpkdcaacE1
set_option linter.unusedSectionVars false
set_option linter.all false
set_option linter.unusedVariables false
set_option linter.unusedSimpArgs false
set_option maxRecDepth 100000
namespace Go.Proofs.Ytoeadcefgpkdcaa
open Go.Lft

def newN : S := [110, 101, 119]
theorem boxAt_of {s : Store} (h : storeOk s = true) {b : Box} (hb : b ∈ s.boxes) : boxAt s b.name = (b, true) := by
  obtain ⟨c1, c2, c3, c4⟩ := (storeOk_iff s).1 h
  rcases idx_find (p := isNamed b.name) (xs := s.boxes) with ⟨e1, _⟩ | ⟨i, hi, e1, _, e3, _⟩
  · rw [List.find?_eq_none] at e1
    exact absurd (by simp [isNamed]) (e1 b hb)
  · have hn : s.boxes[i].name = b.name := by simpa [isNamed] using e3
    obtain ⟨j, hj, rfl⟩ := List.getElem_of_mem hb
    have hij : i = j := by
      rw [List.pairwise_iff_getElem] at c2
      rcases Nat.lt_trichotomy i j with h | h | h
      · have := c2 i j hi hj h
        rw [hn, ltB_irrefl] at this; cases this
      · exact h
      · have := c2 j i hj hi h
        rw [hn, ltB_irrefl] at this; cases this
    subst hij
    unfold boxAt
    rw [e1]
theorem boxAt_none {s : Store} {n : S} (h : s.boxes.any (isNamed n) = false) : (boxAt s n).2 = false := by
  have : s.boxes.find? (isNamed n) = none := by
    rw [List.find?_eq_none]; rw [List.any_eq_false] at h; exact h
  simp [boxAt, this]
theorem new_none {s : Store} (hg : Good s) : s.boxes.any (isNamed newN) = false := by
  rw [List.any_eq_false]
  intro b hb hc
  have h1 := hg.names b.name (List.mem_map.2 ⟨b, hb, rfl⟩)
  have h2 : b.name = newN := by simpa [isNamed] using hc
  rw [h2] at h1
  simp [names4, newN, inboxN] at h1
theorem len_all {xs : List Box} {p q : Box → Bool} (h : ∀ x ∈ xs, (p x = true ∧ q x = false) ∨ (p x = false ∧ q x = true)) : (xs.filter p).length + (xs.filter q).length = xs.length := by
  induction xs with
  | nil => simp
  | cons x xs ih =>
    have ih' := ih fun y hy => h y (List.mem_cons_of_mem _ hy)
    rw [List.filter_cons, List.filter_cons]
    rcases h x (by simp) with ⟨h1, h2⟩ | ⟨h1, h2⟩
    · rw [h1, h2]; simp; omega
    · rw [h1, h2]; simp; omega
theorem make_new {s : Store} (hg : Good s) : (makeBox s newN = (s, 3) ∧ (boxAt s newN).2 = false) ∨
    ∃ A D : Store, makeBox s newN = (A, 0) ∧ storeOk A = true ∧ boxAt A newN = (boxNew newN s.valid, true) ∧ (∀ b ∈ s.boxes, boxAt A b.name = (b, true) ∧ b.valid < s.valid) ∧ makeBox A newN = (A, 2) ∧
      dropBox A newN = (D, 0) ∧ storeOk D = true ∧ (boxAt D newN).2 = false ∧ dropBox D newN = (D, 1) ∧ D.boxes.length = s.boxes.length ∧ D.valid = A.valid := by
  have hn := new_none hg
  have hbn : boxName newN = true := by decide
  have hok := make_ok (n := newN) hg.ok
  obtain ⟨c1, c2, c3, c4⟩ := (storeOk_iff s).1 hg.ok
  by_cases hf : s.boxes.length = 4 ∨ s.valid = 9999
  · left
    refine ⟨?_, boxAt_none hn⟩
    unfold makeBox
    rw [if_pos ⟨hg.ok, hbn⟩, if_neg (by rw [hn]; simp), if_pos hf]
  · right
    have e : makeBox s newN = (⟨s.boxes.filter (fun b => ltB b.name newN) ++ [boxNew newN s.valid] ++ s.boxes.filter (fun b => ltB newN b.name), s.valid + 1⟩, 0) := by
      unfold makeBox
      rw [if_pos ⟨hg.ok, hbn⟩, if_neg (by rw [hn]; simp), if_neg hf]
    rw [e] at hok
    simp only at hok
    have hmem : ∀ b ∈ s.boxes, b ∈ s.boxes.filter (fun b => ltB b.name newN) ++ [boxNew newN s.valid] ++ s.boxes.filter (fun b => ltB newN b.name) := by
      intro b hb
      simp only [List.mem_append, List.mem_singleton, List.mem_filter]
      have hne : ¬ b.name = newN := by
        intro hc
        rw [List.any_eq_false] at hn
        exact hn b hb (by simp [isNamed, hc])
      cases h5 : ltB b.name newN
      · cases h6 : ltB newN b.name
        · exact absurd (ltB_tri h5 h6) hne
        · exact .inr ⟨hb, rfl⟩
      · exact .inl (.inl ⟨hb, rfl⟩)
    have hlen : (s.boxes.filter (fun b => ltB b.name newN)).length + (s.boxes.filter (fun b => ltB newN b.name)).length = s.boxes.length := by
      refine len_all fun b hb => ?_
      have hne : ¬ b.name = newN := by
        intro hc
        rw [List.any_eq_false] at hn
        exact hn b hb (by simp [isNamed, hc])
      cases h5 : ltB b.name newN
      · cases h6 : ltB newN b.name
        · exact absurd (ltB_tri h5 h6) hne
        · exact .inr ⟨rfl, rfl⟩
      · exact .inl ⟨rfl, ltB_asymm h5⟩
    have hin : (boxNew newN s.valid) ∈ s.boxes.filter (fun b => ltB b.name newN) ++ [boxNew newN s.valid] ++ s.boxes.filter (fun b => ltB newN b.name) := by simp
    generalize hA : (⟨s.boxes.filter (fun b => ltB b.name newN) ++ [boxNew newN s.valid] ++ s.boxes.filter (fun b => ltB newN b.name), s.valid + 1⟩ : Store) = A at *
    have hAb : A.boxes = s.boxes.filter (fun b => ltB b.name newN) ++ [boxNew newN s.valid] ++ s.boxes.filter (fun b => ltB newN b.name) := by rw [← hA]
    rw [← hAb] at hmem hin
    have hAn : A.boxes.any (isNamed newN) = true := by
      rw [List.any_eq_true]
      exact ⟨_, hin, by simp [isNamed, boxNew]⟩
    have hAl : A.boxes.length = s.boxes.length + 1 := by rw [hAb]; simp; omega
    have hdrop : dropBox A newN = (⟨A.boxes.filter (fun b => !isNamed newN b), A.valid⟩, 0) := by
      unfold dropBox
      rw [if_pos ⟨hok, by decide⟩, if_pos hAn, if_neg (by omega)]
    have hD := drop_ok (n := newN) hok
    rw [hdrop] at hD
    have hDn : (A.boxes.filter fun b => !isNamed newN b).any (isNamed newN) = false := by
      rw [List.any_eq_false]
      intro b hb
      have := (List.mem_filter.1 hb).2
      simpa using this
    refine ⟨A, ⟨A.boxes.filter (fun b => !isNamed newN b), A.valid⟩, e, hok, ?_, fun b hb => ⟨boxAt_of hok (hmem b hb), (c1 b hb).2⟩, ?_, hdrop, hD, boxAt_none hDn, ?_, ?_, rfl⟩
    · have := boxAt_of hok hin
      exact this
    · unfold makeBox
      rw [if_pos ⟨hok, hbn⟩, if_pos hAn]
    · unfold dropBox
      rw [if_pos ⟨hD, by decide⟩, if_neg (by rw [hDn]; simp)]
    · have := drop_len hok hAn
      simp only [this]
      omega
theorem drop_inbox {s : Store} : dropBox s inboxN = (s, 4) := by
  unfold dropBox
  rw [if_neg (fun h => h.2 rfl)]
set_option maxHeartbeats 4000000 in
theorem law_Boxes : ∀ xs, Sh.hasL [.slice 5 1 (.int .u8)] xs → lim E 7 xs = some (.bool true, []) := by
  intro xs h
  obtain ⟨x, s, rfl, g, h⟩ := has_cons h
  obtain rfl := has_nil h
  obtain ⟨code, rfl⟩ := has_code _ _ g
  by_cases hbig : 1048576 < code.length
  · refine lim_run (E := E) rfl Try.func7 rfl (by kernel_rfl) (by kernel_rfl) ?_
    simp [Try.f7, tmpAt, hbig]
  have hc : code.length ≤ 1048576 := by omega
  obtain ⟨s, hg, w1⟩ := ex_DrawStore code hc
  try simp at w1
  have hs := storeOk_sz hg.ok
  obtain ⟨_, _, hs4, _⟩ := (storeOk_iff s).1 hg.ok
  have w2 := eq_MakeBox s newN (by omega) (by decide)
  have w3 := eq_StoreOk s (by omega)
  rw [hg.ok] at w3
  have w4 := eq_DropBox s inboxN (by omega)
  rw [drop_inbox] at w4
  try simp at w3
  rcases make_new hg with ⟨e1, e2⟩ | ⟨A, dd, e1, e2, e3, e4, e5, e6, e7, e8, e9, e10, e11⟩
  · rw [e1] at w2
    have w5 := eq_BoxAt s newN (by omega)
    rw [e2] at w5
    have w6 := eq_sSameStore s s (by omega)
    unfold newN at w2 w5
    try simp at w2
    try simp at w5
    try simp at w6
    refine lim_run (E := E) rfl Try.func7 rfl (by kernel_rfl) (by kernel_rfl) ?_
    simp [Try.f7, tmpAt, hbig, w1, w2, w3, w5, w6]
  · rw [e1] at w2
    have hA := storeOk_sz e2
    have hD := storeOk_sz e7
    have w5 := eq_BoxAt A newN (by omega)
    rw [e3] at w5
    have w6 := eq_MakeBox A newN (by omega) (by decide)
    rw [e5] at w6
    have w7 := eq_DropBox A newN (by omega)
    rw [e6] at w7
    have w8 := eq_BoxAt dd newN (by omega)
    have w9 := eq_DropBox dd newN (by omega)
    rw [e9] at w9
    have w10 := eq_StoreOk A (by omega)
    rw [e2] at w10
    rw [e8] at w8
    have hnv : (boxNew newN s.valid).valid = s.valid := rfl
    generalize boxNew newN s.valid = B at *
    unfold newN at w2 w5 w6 w7 w8 w9
    unfold inboxN at w4
    try simp at w2
    try simp at w4
    try simp at w5
    try simp at w6
    try simp at w7
    simp [e11] at w8
    simp [e11] at w9
    try simp at w10
    refine lim_run (E := E) rfl Try.func7 rfl (by kernel_rfl) (by kernel_rfl) ?_
    simp [Try.f7, tmpAt, hbig, w1, w2, w5]
    refine loop_fr [3, 4, 6, 7] [(3,0), (4,0), (6,0)] (fun m st => ∃ (i : Nat), i + m = s.boxes.length ∧ st.env 8 = .int .i64 i) (s.boxes.length) _ ?_ ?_
    · exact ⟨0, by simp⟩
    rintro m0 ⟨env, rs⟩ hU0 hV0 ⟨i, hi, e0_8⟩ ih0; simp at hU0 hV0 e0_8
    have hw := wrap_up (show i < 4611686018427387904 by omega)
    simp [hU0, hV0, e0_8]
    refine RB_dec ?_ ?_ <;> intro h
    · obtain ⟨v1, v2⟩ := e4 s.boxes[i] (List.getElem_mem h)
      have z1 := eq_BoxAt A s.boxes[i].name (by omega)
      rw [v1] at z1
      try simp at z1
      have hsb := sz_box (List.getElem_mem h)
      have z2 := eq_lsameBox s.boxes[i] s.boxes[i] (by omega)
      try simp at z2
      have v3 : ¬ B.valid ≤ s.boxes[i].valid := by omega
      simp [hU0, hV0, e0_8, h, z1, z2, v3, tmpAt]
      refine ⟨trOk_unord (L := [(0, 1), (0, 2), (0, 3), (0, 4), (0, 5), (0, 6), (0, 11), (1, 3), (1, 11), (2, 3), (2, 11), (3, 11), (4, 11), (5, 11), (6, 11), (7, 11), (8, 11), (9, 10), (9, 11), (10, 11), (10, 12)]) (by kernel_rfl) (by simp) (by simp [indepAt, indep, spares, around, pre, isSlc, Tr.feels, Tr.all, moves, bare, opData, isExt, cmpOf, Op.operands, Call.operands, mentL, ment, D.noUndefL, D.noUndef, pureE, hU0, hV0, e0_8, h]), ?_⟩
      refine ih0 (m0 - 1) _ (by omega) ?_ ?_ ⟨i + 1, by omega, ?_⟩
      · simp [hU0, hV0, e0_8]
      · simp [hU0, hV0, e0_8]
      simp [hU0, hV0, e0_8, hw]
    · simp [hU0, hV0, e0_8, h, w4, w6, w7, w8, w9, w10, e10, e11, tmpAt]
end Go.Proofs.Ytoeadcefgpkdcaa
