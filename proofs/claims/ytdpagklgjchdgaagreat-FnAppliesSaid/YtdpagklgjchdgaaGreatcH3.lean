/- Stores: the program's MakeBox and DropBox. -/
import Derived.Test.YtdpagklgjchdgaaGreatcH2
set_option linter.unusedSectionVars false
set_option linter.all false
set_option linter.unusedVariables false
set_option linter.unusedSimpArgs false
set_option maxRecDepth 100000
namespace Go.Proofs.YtdpagklgjchdgaaGreat
open Go.Lft

noncomputable def makeBox (s : Store) (n : S) : Store × Int :=
  if storeOk s = true ∧ boxName n = true then
    if s.boxes.any (isNamed n) = true then (s, 2)
    else if s.boxes.length = 4 ∨ s.valid = 9999 then (s, 3)
    else (⟨s.boxes.filter (fun b => ltB b.name n) ++ [boxNew n s.valid] ++ s.boxes.filter (fun b => ltB n b.name), s.valid + 1⟩, 0)
  else (s, 4)
def inboxN : S := [105, 110, 98, 111, 120]
noncomputable def dropBox (s : Store) (n : S) : Store × Int :=
  if storeOk s = true ∧ n ≠ inboxN then
    if s.boxes.any (isNamed n) = true then (if s.boxes.length = 1 then (s, 4) else (⟨s.boxes.filter (fun b => !isNamed n b), s.valid⟩, 0))
    else (s, 1)
  else (s, 4)
theorem boxNew_right {s : Store} {n : S} (h1 : storeOk s = true) (h2 : boxName n = true) : boxNewR n s.valid = boxNew n s.valid ∧ boxOk (boxNew n s.valid) = true := by
  obtain ⟨_, _, _, h3⟩ := (storeOk_iff s).1 h1
  have := boxNew_ok h2 (v := s.valid) (by omega) (by omega)
  exact ⟨by unfold boxNewR; rw [if_pos this], this⟩
theorem eq_InsertBox (xs : List Box) (b : Box) (i : Int) (h1 : 0 ≤ i) (h2 : i ≤ xs.length) (h3 : xs.length ≤ 16777216) : lim E 53 [.lst true 38 7 (xs.map (encBox false true)), .int .i64 i, .lst true 38 7 [encBox false true b]] = some (.lst true 38 7 ((xs.take i.toNat ++ [b] ++ xs.drop i.toNat).map (encBox false true)), [.undef, .undef]) := by
  rw [lim_ext ext53]
  simp [extInsert, h1, h2, h3]
set_option maxHeartbeats 4000000 in
theorem eq_MakeBox (s : Store) (n : S) (hl : szStore s ≤ 1048576) (hn : n.length ≤ 1048576) : lim E 12 [encStore false false s, .str n] = some (.tup [encStore false true (makeBox s n).1, .int .i64 (makeBox s n).2], []) := by
  have hz : szStore s = s.boxes.length + tot (fun (y : Box) => szBox y) s.boxes := rfl
  have wc := eq_copyStore s hl
  try simp at wc
  have wo := eq_StoreOk s (by omega)
  try simp at wo
  have wn := eq_BoxName n (by omega)
  have wa := eq_boxAt s n (by omega)
  try simp at wa
  by_cases hok : storeOk s = true ∧ boxName n = true
  case neg =>
    have he : makeBox s n = (s, 4) := by unfold makeBox; rw [if_neg hok]
    rw [he]
    cases h1 : storeOk s
    · rw [h1] at wo
      refine lim_run (E := E) rfl Tryz.func12 rfl (by kernel_rfl) (by kernel_rfl) ?_
      simp [Tryz.f12, tmpAt, wc, wo, wn]
    · have h2 : boxName n = false := by cases hb : boxName n; rfl; exact absurd ⟨h1, hb⟩ hok
      rw [h1] at wo
      rw [h2] at wn
      refine lim_run (E := E) rfl Tryz.func12 rfl (by kernel_rfl) (by kernel_rfl) ?_
      simp [Tryz.f12, tmpAt, wc, wo, wn]
  obtain ⟨o1, o2⟩ := hok
  rw [o1] at wo
  rw [o2] at wn
  obtain ⟨c1, c2, c3, c4⟩ := (storeOk_iff s).1 o1
  cases ha : s.boxes.any (isNamed n)
  case true =>
    have he : makeBox s n = (s, 2) := by unfold makeBox; rw [if_pos ⟨o1, o2⟩, if_pos ha]
    rw [he]
    have hi : (0 : Int) ≤ idxOf (isNamed n) s.boxes := idxOf_neg.2 ha
    refine lim_run (E := E) rfl Tryz.func12 rfl (by kernel_rfl) (by kernel_rfl) ?_
    simp [Tryz.f12, tmpAt, wc, wo, wn, wa, hi]
  have hidx : idxOf (isNamed n) s.boxes = -1 := idxOf_none ha
  rw [hidx] at wa
  by_cases hfull : s.boxes.length = 4 ∨ s.valid = 9999
  · have he : makeBox s n = (s, 3) := by unfold makeBox; rw [if_pos ⟨o1, o2⟩, if_neg (by rw [ha]; simp), if_pos hfull]
    rw [he]
    by_cases h4 : s.boxes.length = 4
    · refine lim_run (E := E) rfl Tryz.func12 rfl (by kernel_rfl) (by kernel_rfl) ?_
      simp [Tryz.f12, tmpAt, wc, wo, wn, wa, h4]
    · have h9 : s.valid = 9999 := by rcases hfull with h | h; exact absurd h h4; exact h
      have d9 : decide (s.valid = 9999) = true := by simp [h9]
      have h4' : ¬ ((s.boxes.length : Int) = 4) := by omega
      refine lim_run (E := E) rfl Tryz.func12 rfl (by kernel_rfl) (by kernel_rfl) ?_
      simp [Tryz.f12, tmpAt, wc, wo, wn, wa, h4', d9]
  have h4 : ¬ s.boxes.length = 4 := fun h => hfull (.inl h)
  have h9 : ¬ s.valid = 9999 := fun h => hfull (.inr h)
  have he : makeBox s n = (⟨s.boxes.filter (fun b => ltB b.name n) ++ [boxNew n s.valid] ++ s.boxes.filter (fun b => ltB n b.name), s.valid + 1⟩, 0) := by unfold makeBox; rw [if_pos ⟨o1, o2⟩, if_neg (by rw [ha]; simp), if_neg hfull]
  obtain ⟨hR, hnew⟩ := boxNew_right o1 o2
  have wb := eq_BoxNew n s.valid (by omega)
  rw [hR, hnew] at wb
  generalize hB : boxNew n s.valid = B at *
  try simp at wb
  have hw2 : IntKind.i64.wrap (s.valid + 1) = s.valid + 1 := wrap_in (by omega) (by omega)
  have h4' : ¬ ((s.boxes.length : Int) = 4) := by omega
  refine lim_run (E := E) rfl Tryz.func12 rfl (by kernel_rfl) (by kernel_rfl) ?_
  simp [Tryz.f12, tmpAt, wc, wo, wn, wa, h4', h9, wb]
  refine loop_fr [1, 4, 6, 7] [(4,0), (6,0), (7,0)] (fun m st => ∃ (i : Nat), i + m = s.boxes.length ∧ (∀ x ∈ s.boxes.take i, ltB x.name n = true) ∧ st.env 9 = .int .i64 i) (s.boxes.length) _ ?_ ?_
  · exact ⟨0, by simp⟩
  rintro m0 ⟨env, rs⟩ hU0 hV0 ⟨i, hi, hs, e0_9⟩ ih0; simp at hU0 hV0 e0_9
  have hw := wrap_up (show i < 4611686018427387904 by omega)
  have out : (∀ h : i < s.boxes.length, ltB s.boxes[i].name n = false) → makeBox s n = (⟨s.boxes.take i ++ [B] ++ s.boxes.drop i, s.valid + 1⟩, 0) := by
    intro h
    obtain ⟨e1, e2⟩ := split_at c2 ha hs h
    rw [he, e1, e2]
  have wI := eq_InsertBox s.boxes B i (by omega) (by omega) (by omega)
  try simp at wI
  simp [hU0, hV0, e0_9]
  by_cases h : i < s.boxes.length
  · have h' : (i : Int) < (s.boxes.length : Int) := by omega
    cases hc : ltB s.boxes[i].name n
    · rw [out (fun _ => hc)]
      simp [hU0, hV0, e0_9, h, hc, wI, hw2, tmpAt]
    · simp [hU0, hV0, e0_9, h, hc, tmpAt]
      refine ih0 (m0 - 1) _ (by omega) ?_ ?_ ⟨i + 1, by omega, ?_, ?_⟩
      · simp [hU0, hV0, e0_9, h]
      · simp [hU0, hV0, e0_9, h]
      · intro x hx
        rw [List.take_succ_eq_append_getElem h, List.mem_append, List.mem_singleton] at hx
        rcases hx with hx | rfl
        · exact hs x hx
        · exact hc
      · simp [hU0, hV0, e0_9, hw]
  · rw [out (fun h' => absurd h' h)]
    simp [hU0, hV0, e0_9, h, wI, hw2, tmpAt]
theorem eq_DeleteBox (xs : List Box) (i j : Int) (h1 : 0 ≤ i) (h2 : i < j) (h3 : j ≤ xs.length) : lim E 56 [.lst true 38 7 (xs.map (encBox false true)), .int .i64 i, .int .i64 j] = some (.lst true 38 7 ((xs.take i.toNat ++ xs.drop j.toNat).map (encBox false true)), [.undef]) := by
  rw [lim_ext ext56]
  simp [extDelete, h1, h2, h3]
theorem named_once {s : Store} {n : S} (c2 : s.boxes.Pairwise (fun a c => ltB a.name c.name = true)) {i : Nat} (h : i < s.boxes.length) (h1 : isNamed n s.boxes[i] = true) : s.boxes.take i ++ s.boxes.drop (i + 1) = s.boxes.filter fun b => !isNamed n b := by
  have hn : s.boxes[i].name = n := by simpa [isNamed] using h1
  have e : s.boxes = s.boxes.take i ++ s.boxes[i] :: s.boxes.drop (i + 1) := by rw [← List.drop_eq_getElem_cons h, List.take_append_drop]
  have hp := c2
  rw [e, List.pairwise_append] at hp
  obtain ⟨_, p2, p3⟩ := hp
  have q1 : ∀ x ∈ s.boxes.take i, (!isNamed n x) = true := by
    intro x hx
    have := p3 x hx s.boxes[i] (List.mem_cons_self ..)
    rw [hn] at this
    simp only [isNamed, Bool.not_eq_true', decide_eq_false_iff_not]
    rintro rfl
    rw [ltB_irrefl] at this; cases this
  have q2 : ∀ x ∈ s.boxes.drop (i + 1), (!isNamed n x) = true := by
    intro x hx
    have := (List.pairwise_cons.1 p2).1 x hx
    rw [hn] at this
    simp only [isNamed, Bool.not_eq_true', decide_eq_false_iff_not]
    rintro rfl
    rw [ltB_irrefl] at this; cases this
  conv => rhs; rw [e]
  rw [List.filter_append, List.filter_cons_of_neg (by simp [h1]), List.filter_eq_self.2 q1, List.filter_eq_self.2 q2]
set_option maxHeartbeats 4000000 in
theorem eq_DropBox (s : Store) (n : S) (hl : szStore s ≤ 1048576) : lim E 14 [encStore false false s, .str n] = some (.tup [encStore false true (dropBox s n).1, .int .i64 (dropBox s n).2], []) := by
  have hz : szStore s = s.boxes.length + tot (fun (y : Box) => szBox y) s.boxes := rfl
  have wc := eq_copyStore s hl
  try simp at wc
  have wo := eq_StoreOk s (by omega)
  try simp at wo
  have wa := eq_boxAt s n (by omega)
  try simp at wa
  by_cases hok : storeOk s = true ∧ n ≠ inboxN
  case neg =>
    have he : dropBox s n = (s, 4) := by unfold dropBox; rw [if_neg hok]
    rw [he]
    cases h1 : storeOk s
    · rw [h1] at wo
      refine lim_run (E := E) rfl Tryz.func14 rfl (by kernel_rfl) (by kernel_rfl) ?_
      simp [Tryz.f14, tmpAt, wc, wo, wa]
    · have h2 : n = inboxN := by by_cases hb : n = inboxN; exact hb; exact absurd ⟨h1, hb⟩ hok
      subst h2
      rw [h1] at wo
      unfold inboxN at *
      refine lim_run (E := E) rfl Tryz.func14 rfl (by kernel_rfl) (by kernel_rfl) ?_
      simp [Tryz.f14, tmpAt, wc, wo, wa]
  obtain ⟨o1, o2⟩ := hok
  rw [o1] at wo
  have o2' : ¬ n = [105, 110, 98, 111, 120] := o2
  obtain ⟨c1, c2, c3, c4⟩ := (storeOk_iff s).1 o1
  rcases idx_find (p := isNamed n) (xs := s.boxes) with ⟨h1, h2⟩ | ⟨i, hi, h1, h2, h3, h4⟩
  · have ha : s.boxes.any (isNamed n) = false := by rw [List.any_eq_false]; intro x hx; rw [List.find?_eq_none] at h1; exact h1 x hx
    have he : dropBox s n = (s, 1) := by unfold dropBox; rw [if_pos ⟨o1, o2⟩, if_neg (by rw [ha]; simp)]
    rw [he]
    rw [h2] at wa
    refine lim_run (E := E) rfl Tryz.func14 rfl (by kernel_rfl) (by kernel_rfl) ?_
    simp [Tryz.f14, tmpAt, wc, wo, wa, o2']
  · have ha : s.boxes.any (isNamed n) = true := by rw [List.any_eq_true]; exact ⟨_, List.getElem_mem hi, h3⟩
    rw [h2] at wa
    have hneg : (0 : Int) ≤ (i : Int) := by omega
    have hneg' : ¬ (i : Int) < 0 := by omega
    by_cases hone : s.boxes.length = 1
    · have he : dropBox s n = (s, 4) := by unfold dropBox; rw [if_pos ⟨o1, o2⟩, if_pos ha, if_pos hone]
      rw [he]
      have hone' : ((s.boxes.length : Int) = 1) := by omega
      refine lim_run (E := E) rfl Tryz.func14 rfl (by kernel_rfl) (by kernel_rfl) ?_
      simp [Tryz.f14, tmpAt, wc, wo, wa, o2', hneg, hone']
    · have he : dropBox s n = (⟨s.boxes.filter (fun b => !isNamed n b), s.valid⟩, 0) := by unfold dropBox; rw [if_pos ⟨o1, o2⟩, if_pos ha, if_neg hone]
      rw [he, ← named_once c2 hi h3]
      have hone' : ¬ ((s.boxes.length : Int) = 1) := by omega
      have hw := wrap_up (show i < 4611686018427387904 by omega)
      have wD := eq_DeleteBox s.boxes (i : Int) ((i + 1 : Nat) : Int) (by omega) (by omega) (by omega)
      try simp at wD
      try simp at hw
      refine lim_run (E := E) rfl Tryz.func14 rfl (by kernel_rfl) (by kernel_rfl) ?_
      simp [Tryz.f14, tmpAt, wc, wo, wa, o2', hneg, hneg', hone', hw, wD]
end Go.Proofs.YtdpagklgjchdgaaGreat
