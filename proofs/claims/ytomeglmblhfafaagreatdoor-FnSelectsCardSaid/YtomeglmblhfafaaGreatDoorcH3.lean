/- Stores: the program's MakeBox and DropBox. -/
import Derived.Test.YtomeglmblhfafaaGreatDoorcH2
set_option linter.unusedSectionVars false
set_option linter.all false
set_option linter.unusedVariables false
set_option linter.unusedSimpArgs false
set_option maxRecDepth 100000
namespace Go.Proofs.YtomeglmblhfafaaGreatDoor
open Go.Lft

noncomputable def makeBox (s : Store) (n : S) : Store × Int :=
  if storeOk s = true ∧ boxName n = true then
    if s.boxes.any (isNamed n) = true then (s, 2)
    else if s.boxes.length = 4 ∨ s.valid = 9999 then (s, 3)
    else (⟨s.boxes.filter (fun b => ltB b.name n) ++ [boxNew n s.valid] ++ s.boxes.filter (fun b => ltB n b.name), s.valid + 1⟩, 0)
  else (s, 4)
def inboxN : S := [105, 110, 98, 111, 120]
noncomputable def dropBox (s : Store) (n : S) : Store × Int :=
  if storeOk s = true ∧ n ≠ inboxN then
    if s.boxes.any (isNamed n) = true then (if s.boxes.length = 1 then (s, 4) else (⟨s.boxes.filter (fun b => !isNamed n b), s.valid⟩, 0))
    else (s, 1)
  else (s, 4)
theorem boxNew_right {s : Store} {n : S} (h1 : storeOk s = true) (h2 : boxName n = true) : boxNewR n s.valid = boxNew n s.valid ∧ boxOk (boxNew n s.valid) = true := by
  obtain ⟨_, _, _, h3⟩ := (storeOk_iff s).1 h1
  have := boxNew_ok h2 (v := s.valid) (by omega) (by omega)
  exact ⟨by unfold boxNewR; rw [if_pos this], this⟩
theorem named_once {s : Store} {n : S} (c2 : s.boxes.Pairwise (fun a c => ltB a.name c.name = true)) {i : Nat} (h : i < s.boxes.length) (h1 : isNamed n s.boxes[i] = true) : s.boxes.take i ++ s.boxes.drop (i + 1) = s.boxes.filter fun b => !isNamed n b := by
  have hn : s.boxes[i].name = n := by simpa [isNamed] using h1
  have e : s.boxes = s.boxes.take i ++ s.boxes[i] :: s.boxes.drop (i + 1) := by rw [← List.drop_eq_getElem_cons h, List.take_append_drop]
  have hp := c2
  rw [e, List.pairwise_append] at hp
  obtain ⟨_, p2, p3⟩ := hp
  have q1 : ∀ x ∈ s.boxes.take i, (!isNamed n x) = true := by
    intro x hx
    have := p3 x hx s.boxes[i] (List.mem_cons_self ..)
    rw [hn] at this
    simp only [isNamed, Bool.not_eq_true', decide_eq_false_iff_not]
    rintro rfl
    rw [ltB_irrefl] at this; cases this
  have q2 : ∀ x ∈ s.boxes.drop (i + 1), (!isNamed n x) = true := by
    intro x hx
    have := (List.pairwise_cons.1 p2).1 x hx
    rw [hn] at this
    simp only [isNamed, Bool.not_eq_true', decide_eq_false_iff_not]
    rintro rfl
    rw [ltB_irrefl] at this; cases this
  conv => rhs; rw [e]
  rw [List.filter_append, List.filter_cons_of_neg (by simp [h1]), List.filter_eq_self.2 q1, List.filter_eq_self.2 q2]
end Go.Proofs.YtomeglmblhfafaaGreatDoor
