/- Stores: a box put back keeps a store right; the reference's MoveMails. -/
import Derived.Test.YtomeglmblhfafaaGreatDoorcE4
set_option linter.unusedSectionVars false
set_option linter.all false
set_option linter.unusedVariables false
set_option linter.unusedSimpArgs false
set_option maxRecDepth 100000
namespace Go.Proofs.YtomeglmblhfafaaGreatDoor
open Go.Lft

theorem putBox_ok {s : Store} {b : Box} (hs : storeOk s = true) (hb : boxOk b = true) {b0 : Box} (h0 : b0 ∈ s.boxes) (h1 : b0.name = b.name) (h2 : b0.valid = b.valid) :
    storeOk (putBox s b) = true ∧ (putBox s b).boxes.map (·.name) = s.boxes.map (·.name) ∧ (putBox s b).valid = s.valid := by
  obtain ⟨c1, c2, c3, c4⟩ := (storeOk_iff s).1 hs
  rcases idx_find (p := isNamed b.name) (xs := s.boxes) with ⟨e1, _⟩ | ⟨i, hi, _, _, e3, e4⟩
  · exfalso
    rw [List.find?_eq_none] at e1
    exact e1 b0 h0 (by simp [isNamed, h1])
  rw [putBox_at hi e3 e4]
  have hn : s.boxes[i].name = b.name := by simpa [isNamed] using e3
  have hv : s.boxes[i].valid = b.valid := by
    rw [← h2]
    obtain ⟨j, hj, rfl⟩ := List.getElem_of_mem h0
    rw [List.pairwise_iff_getElem] at c2
    rcases Nat.lt_trichotomy i j with h | h | h
    · have := c2 i j hi hj h
      rw [hn, ← h1, ltB_irrefl] at this; cases this
    · subst h; rfl
    · have := c2 j i hj hi h
      rw [hn, ← h1, ltB_irrefl] at this; cases this
  have hmap : (s.boxes.set i b).map (·.name) = s.boxes.map (·.name) := by
    rw [List.map_set]
    apply List.ext_getElem?
    intro k
    by_cases hk : i = k
    · subst hk
      rw [List.getElem?_set_self (by simpa using hi), List.getElem?_map, List.getElem?_eq_getElem hi, Option.map_some, hn]
    · rw [List.getElem?_set_ne hk]
  refine ⟨?_, hmap, rfl⟩
  rw [storeOk_iff]
  refine ⟨?_, ?_, by simpa using c3, c4⟩
  · intro x hx
    rcases List.mem_or_eq_of_mem_set hx with hx | rfl
    · exact c1 x hx
    · exact ⟨hb, by rw [← hv]; exact (c1 _ (List.getElem_mem hi)).2⟩
  · have h5 : (s.boxes.map (·.name)).Pairwise (fun a c => ltB a c = true) := by rw [List.pairwise_map]; exact c2
    rw [← hmap, List.pairwise_map] at h5
    exact h5
theorem boxAt_cases {s : Store} (hs : storeOk s = true) (n : S) : ((boxAt s n).2 = true ∧ (boxAt s n).1 ∈ s.boxes ∧ (boxAt s n).1.name = n ∧ boxOk (boxAt s n).1 = true) ∨ ((boxAt s n).2 = false ∧ (boxAt s n).1 = ⟨[], 0, 0, 0, [], [], 0⟩) := by
  cases h : (boxAt s n).2
  · right
    refine ⟨rfl, ?_⟩
    unfold boxAt at h ⊢
    split at h
    · cases h
    · rfl
  · left
    obtain ⟨h1, h2⟩ := boxAt_mem h
    exact ⟨rfl, h1, h2, ((storeOk_iff s).1 hs).1 _ h1 |>.1⟩
theorem boxAt_small {s : Store} (hs : storeOk s = true) (n : S) : (boxAt s n).1.mails.length ≤ 30 ∧ szBox (boxAt s n).1 ≤ 10000 := by
  rcases boxAt_cases hs n with ⟨_, _, _, h⟩ | ⟨_, h⟩
  · exact ⟨(boxOk_lens h).1, boxOk_sz h⟩
  · rw [h]; simp [szBox, tot]
theorem copyMails_ok {s : Store} {a z : S} {set_ : List Range} (h : (copyMails s a set_ z).2 = 0) : storeOk s = true ∧ setOk set_ = true ∧ (boxAt s a).2 = true ∧ (boxAt s z).2 = true ∧ ∃ b, addAll (boxAt s z).1 ((boxAt s a).1.mails.filter fun m => setHas set_ m.uid) = some b ∧ (copyMails s a set_ z).1 = putBox s b ∧ storeOk (putBox s b) = true ∧ (putBox s b).boxes.map (·.name) = s.boxes.map (·.name) ∧ (putBox s b).valid = s.valid := by
  unfold copyMails at h ⊢
  split at h
  · rename_i h1
    split at h
    · rename_i h2
      rw [if_pos h1, if_pos h2]
      split at h
      · rename_i b hb
        obtain ⟨m1, m2⟩ := boxAt_mem h2.2
        obtain ⟨k1, k2, k3⟩ := addAll_ok _ (((storeOk_iff s).1 h1.1).1 _ m1).1 hb
        obtain ⟨p1, p2, p3⟩ := putBox_ok h1.1 k1 m1 k2.symm k3.symm
        exact ⟨h1.1, h1.2, h2.1, h2.2, b, hb, rfl, p1, p2, p3⟩
      · simp at h
    · simp at h
  · simp at h
theorem sz_setFlags' (b : Box) (s : List Range) (how bits since : Int) : szBox (setFlags b s how bits since).1 ≤ szBox b := by
  unfold setFlags; split
  · simp only [sz_flagBox]; omega
  · simp only; omega
theorem sz_expunge' (b : Box) (s : List Range) : szBox (expunge b s).1 ≤ szBox b + 10000 := by
  unfold expunge; split
  · rename_i h
    have := boxOk_sz h.2.2.2
    simp only; omega
  · simp only; omega
noncomputable def moveFrom (out : Store) (a : S) (set_ : List Range) : Box × List Int := expunge (setFlags (boxAt out a).1 set_ 2 8 (-1)).1 set_
noncomputable def moveMails (s : Store) (a : S) (set_ : List Range) (z : S) : Store × Int :=
  if a = z then (s, 4)
  else if (copyMails s a set_ z).2 ≠ 0 then (s, (copyMails s a set_ z).2)
  else if sizeS (sAdds (moveFrom (copyMails s a set_ z).1 a set_).2) ≠ (((boxAt (copyMails s a set_ z).1 a).1.mails.filter fun m => setHas set_ m.uid).length : Int) then (s, 3)
  else (putBox (copyMails s a set_ z).1 (moveFrom (copyMails s a set_ z).1 a set_).1, 0)
end Go.Proofs.YtomeglmblhfafaaGreatDoor
