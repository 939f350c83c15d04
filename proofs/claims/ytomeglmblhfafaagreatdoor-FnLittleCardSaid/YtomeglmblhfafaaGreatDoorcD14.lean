/- Boxes: the program's SetFlags. -/
import Derived.Test.YtomeglmblhfafaaGreatDoorcP2
import Derived.Test.YtomeglmblhfafaaGreatDoorcP1
set_option linter.unusedSectionVars false
set_option linter.all false
set_option linter.unusedVariables false
set_option linter.unusedSimpArgs false
set_option maxRecDepth 100000
namespace Go.Proofs.YtomeglmblhfafaaGreatDoor
open Go.Lft

theorem uids_up {b : Box} (h : boxOk b = true) (p : Mail → Bool) : ((b.mails.filter p).map (·.uid)).Pairwise (· < ·) ∧ (∀ u ∈ (b.mails.filter p).map (·.uid), 1 ≤ u ∧ u ≤ 9999) ∧ ((b.mails.filter p).map (·.uid)).length ≤ 30 := by
  obtain ⟨a, b1, b2, b3, b4, c1, c2, c3, d1, d2, d3, d4⟩ := (boxOk_iff b).1 h
  refine ⟨?_, ?_, ?_⟩
  · rw [List.pairwise_map]
    exact c2.filter _
  · intro u hu
    simp only [List.mem_map, List.mem_filter] at hu
    obtain ⟨m, ⟨hm, _⟩, rfl⟩ := hu
    have := c1 m hm
    unfold MailFine at this
    omega
  · have : (b.mails.filter p).length ≤ b.mails.length := List.length_filter_le ..
    simp only [List.length_map]; omega
theorem sAdds_uids {b : Box} (h : boxOk b = true) (p : Mail → Bool) : sAdds ((b.mails.filter p).map (·.uid)) = setOfL ((b.mails.filter p).map (·.uid)) := by
  obtain ⟨h1, h2, h3⟩ := uids_up h p
  exact sAdds_eq _ h1 h2 (by omega)
theorem setHas_uids {b : Box} (h : boxOk b = true) (p : Mail → Bool) (n : Int) : setHas (setOfL ((b.mails.filter p).map (·.uid))) n = decide (n ∈ (b.mails.filter p).map (·.uid)) := by
  obtain ⟨h1, h2, h3⟩ := uids_up h p
  exact (setOfL_ok _ h1 h2).2.2 n
theorem doneU_pos (s : List Range) (how bits since : Int) (ms : List Mail) : (0 : Int) < (doneU s how bits since ms).length ↔ ms.any (isDone s how bits since) = true := by
  unfold doneU
  rw [List.length_map]
  constructor
  · intro h
    have h' : 0 < (ms.filter (isDone s how bits since)).length := by omega
    rw [List.length_filter_pos_iff] at h'
    rw [List.any_eq_true]; exact h'
  · intro h
    rw [List.any_eq_true] at h
    have : 0 < (ms.filter (isDone s how bits since)).length := by rw [List.length_filter_pos_iff]; exact h
    omega
end Go.Proofs.YtomeglmblhfafaaGreatDoor
