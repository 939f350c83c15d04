/- What is gone since: of both. -/
import Derived.Test.YtdpagklgjchdgaaGreatcP3
import Derived.Test.YtdpagklgjchdgaaGreatcD14
set_option linter.unusedSectionVars false
set_option linter.all false
set_option linter.unusedVariables false
set_option linter.unusedSimpArgs false
set_option maxRecDepth 100000
namespace Go.Proofs.YtdpagklgjchdgaaGreat
open Go.Lft

def laterU (since : Int) (ts : List Tomb) : List Int := (ts.filter fun t => decide (since < t.mod)).map (·.uid)
noncomputable def vanished (b : Box) (since : Int) : List Range × Bool := if boxOk b = true ∧ b.horizon ≤ since then (setOfL (sortL (laterU since b.tombs)), true) else ([], false)
theorem laterU_ok {b : Box} (h : boxOk b = true) (since : Int) : (laterU since b.tombs).Nodup ∧ (∀ u ∈ laterU since b.tombs, 1 ≤ u ∧ u ≤ 9999) ∧ (laterU since b.tombs).length ≤ 40 := by
  obtain ⟨a, b1, b2, b3, b4, c1, c2, c3, d1, d2, d3, d4⟩ := (boxOk_iff b).1 h
  refine ⟨?_, ?_, ?_⟩
  · unfold laterU List.Nodup
    rw [List.pairwise_map]
    exact d3.filter _
  · intro u hu
    simp only [laterU, List.mem_map, List.mem_filter] at hu
    obtain ⟨m, ⟨hm, _⟩, rfl⟩ := hu
    have := d1 m hm
    unfold TombFine at this
    omega
  · have : (b.tombs.filter fun t => decide (since < t.mod)).length ≤ b.tombs.length := List.length_filter_le ..
    simp only [laterU, List.length_map]; omega
theorem laterU_next (since : Int) (ts : List Tomb) (i : Nat) (h : i < ts.length) : laterU since (ts.take (i + 1)) = laterU since (ts.take i) ++ (if since < ts[i].mod then [ts[i].uid] else []) := by
  unfold laterU
  rw [take_filter _ _ _ h, List.map_append]
  congr 1
  by_cases hc : since < ts[i].mod <;> simp [hc]
end Go.Proofs.YtdpagklgjchdgaaGreat
