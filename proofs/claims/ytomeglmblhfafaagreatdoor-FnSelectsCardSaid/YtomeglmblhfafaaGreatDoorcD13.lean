/- Sets: the program's set of a list that ascends; the program's SetFlags. -/
import Derived.Test.YtomeglmblhfafaaGreatDoorcD12
set_option linter.unusedSectionVars false
set_option linter.all false
set_option linter.unusedVariables false
set_option linter.unusedSimpArgs false
set_option maxRecDepth 100000
namespace Go.Proofs.YtomeglmblhfafaaGreatDoor
open Go.Lft

theorem last_dec {α : Type} (l : List α) : l = [] ∨ ∃ (k : List α) (x : α), l = k ++ [x] := by
  rcases List.eq_nil_or_concat l with h | ⟨k, x, h⟩
  · exact .inl h
  · exact .inr ⟨k, x, by simpa using h⟩
theorem setSnoc_nil (n : Int) : setSnoc [] n = [⟨n, n⟩] := rfl
theorem setSnoc_snoc (l : List Range) (r : Range) (n : Int) : setSnoc (l ++ [r]) n = if r.hi = n - 1 then l ++ [⟨r.lo, n⟩] else l ++ [r] ++ [⟨n, n⟩] := by
  simp [setSnoc]
end Go.Proofs.YtomeglmblhfafaaGreatDoor
