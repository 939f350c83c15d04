/- Plain facts about right boxes. -/
import Derived.Test.YtomeglmblhfafaaGreatDoorcC3
import Derived.Test.YtomeglmblhfafaaGreatDoorcP0
set_option linter.unusedSectionVars false
set_option linter.all false
set_option linter.unusedVariables false
set_option linter.unusedSimpArgs false
set_option maxRecDepth 100000
namespace Go.Proofs.YtomeglmblhfafaaGreatDoor
open Go.Lft

theorem forget_ok {b : Box} {u : Int} (h : boxOk b = true) : boxOk (forget b u) = true := by
  unfold forget
  split
  · rename_i h2
    obtain ⟨_, hu⟩ := h2
    simp [within] at hu
    rw [boxOk_iff] at h ⊢
    obtain ⟨a, b1, b2, b3, b4, c1, c2, c3, d1, d2, d3, d4⟩ := h
    refine ⟨a, b1, b2, b3, ?_, c1, c2, c3, ?_, ?_, ?_, ?_⟩
    · show 0 ≤ (if b.horizon < u then u else b.horizon) ∧ (if b.horizon < u then u else b.horizon) ≤ b.mod
      split <;> omega
    · intro t ht
      simp only [forgot, List.mem_filter, decide_eq_true_eq] at ht
      obtain ⟨e1, e2, e3, e4, e5⟩ := d1 t ht.1
      refine ⟨e1, e2, ?_, e4, e5⟩
      show (if b.horizon < u then u else b.horizon) + 1 ≤ t.mod
      split <;> omega
    · exact d2.filter _
    · exact d3.filter _
    · exact Nat.le_trans (List.length_filter_le ..) d4
  · exact h
theorem boxNew_ok {n : S} {v : Int} (hn : boxName n = true) (h1 : 1 ≤ v) (h2 : v ≤ 9999) : boxOk (boxNew n v) = true := by
  rw [boxOk_iff]
  simp [boxNew, hn]
  omega
end Go.Proofs.YtomeglmblhfafaaGreatDoor
