/- Stores: the reference's MakeBox and DropBox, the same as the program's. -/
import Derived.Test.YtomeglmblhfafaaGreatDoorcH2
set_option linter.unusedSectionVars false
set_option linter.all false
set_option linter.unusedVariables false
set_option linter.unusedSimpArgs false
set_option maxRecDepth 100000
namespace Go.Proofs.YtomeglmblhfafaaGreatDoor
open Go.Lft

noncomputable def makeBox (s : Store) (n : S) : Store × Int :=
  if storeOk s = true ∧ boxName n = true then
    if s.boxes.any (isNamed n) = true then (s, 2)
    else if s.boxes.length = 4 ∨ s.valid = 9999 then (s, 3)
    else (⟨s.boxes.filter (fun b => ltB b.name n) ++ [boxNew n s.valid] ++ s.boxes.filter (fun b => ltB n b.name), s.valid + 1⟩, 0)
  else (s, 4)
def inboxN : S := [105, 110, 98, 111, 120]
noncomputable def dropBox (s : Store) (n : S) : Store × Int :=
  if storeOk s = true ∧ n ≠ inboxN then
    if s.boxes.any (isNamed n) = true then (if s.boxes.length = 1 then (s, 4) else (⟨s.boxes.filter (fun b => !isNamed n b), s.valid⟩, 0))
    else (s, 1)
  else (s, 4)
theorem boxNew_right {s : Store} {n : S} (h1 : storeOk s = true) (h2 : boxName n = true) : boxNewR n s.valid = boxNew n s.valid ∧ boxOk (boxNew n s.valid) = true := by
  obtain ⟨_, _, _, h3⟩ := (storeOk_iff s).1 h1
  have := boxNew_ok h2 (v := s.valid) (by omega) (by omega)
  exact ⟨by unfold boxNewR; rw [if_pos this], this⟩
theorem named_once {s : Store} {n : S} (c2 : s.boxes.Pairwise (fun a c => ltB a.name c.name = true)) {i : Nat} (h : i < s.boxes.length) (h1 : isNamed n s.boxes[i] = true) : s.boxes.take i ++ s.boxes.drop (i + 1) = s.boxes.filter fun b => !isNamed n b := by
  have hn : s.boxes[i].name = n := by simpa [isNamed] using h1
  have e : s.boxes = s.boxes.take i ++ s.boxes[i] :: s.boxes.drop (i + 1) := by rw [← List.drop_eq_getElem_cons h, List.take_append_drop]
  have hp := c2
  rw [e, List.pairwise_append] at hp
  obtain ⟨_, p2, p3⟩ := hp
  have q1 : ∀ x ∈ s.boxes.take i, (!isNamed n x) = true := by
    intro x hx
    have := p3 x hx s.boxes[i] (List.mem_cons_self ..)
    rw [hn] at this
    simp only [isNamed, Bool.not_eq_true', decide_eq_false_iff_not]
    rintro rfl
    rw [ltB_irrefl] at this; cases this
  have q2 : ∀ x ∈ s.boxes.drop (i + 1), (!isNamed n x) = true := by
    intro x hx
    have := (List.pairwise_cons.1 p2).1 x hx
    rw [hn] at this
    simp only [isNamed, Bool.not_eq_true', decide_eq_false_iff_not]
    rintro rfl
    rw [ltB_irrefl] at this; cases this
  conv => rhs; rw [e]
  rw [List.filter_append, List.filter_cons_of_neg (by simp [h1]), List.filter_eq_self.2 q1, List.filter_eq_self.2 q2]
end Go.Proofs.YtomeglmblhfafaaGreatDoor

set_option linter.unusedVariables false
set_option linter.unusedSimpArgs false
set_option maxRecDepth 100000
namespace Go.Proofs.YtomeglmblhfafaaGreatDoor
open Go.Lft

/-! ### A row whose first so many elements are of another make -/
def mapTo2 {α β : Type} (f g : α → β) (i : Nat) (xs : List α) : List β := (xs.take i).map f ++ (xs.drop i).map g
@[simp] theorem mapTo2_zero {α β : Type} (f g : α → β) (xs : List α) : mapTo2 f g 0 xs = xs.map g := by simp [mapTo2]
@[simp] theorem mapTo2_len {α β : Type} (f g : α → β) (i : Nat) (xs : List α) : (mapTo2 f g i xs).length = xs.length := by simp [mapTo2]; omega
@[simp] theorem mapTo2_get {α β : Type} (f g : α → β) (i : Nat) (xs : List α) (h : i < (mapTo2 f g i xs).length) : (mapTo2 f g i xs)[i] = g (xs[i]'(by simpa using h)) := by
  have h' : i < xs.length := by simpa using h
  simp [mapTo2, List.getElem_append, Nat.min_eq_left (by omega : i ≤ xs.length)]
theorem mapTo2_set {α β : Type} (f g : α → β) (i : Nat) (xs : List α) (h : i < xs.length) : (mapTo2 f g i xs).set i (f xs[i]) = mapTo2 f g (i + 1) xs := by
  have hl : ((xs.take i).map f).length = i := by simp; omega
  simp only [mapTo2]
  rw [List.set_append_right _ _ (by omega), hl, Nat.sub_self, List.take_succ_eq_append_getElem h, List.drop_eq_getElem_cons h]
  simp only [List.map_append, List.map_cons, List.map_nil, List.set_cons_zero, List.append_assoc, List.cons_append, List.nil_append]
theorem mapTo2_same {α β : Type} (f g : α → β) (i : Nat) (xs : List α) (h : i < xs.length) (hf : f xs[i] = g xs[i]) : mapTo2 f g (i + 1) xs = mapTo2 f g i xs := by
  simp only [mapTo2]
  rw [List.take_succ_eq_append_getElem h, List.drop_eq_getElem_cons h]
  simp only [List.map_append, List.map_cons, List.map_nil, List.append_assoc, List.cons_append, List.nil_append, hf]
theorem mapTo2_all {α β : Type} (f g : α → β) (i : Nat) (xs : List α) (h : ¬ i < xs.length) : mapTo2 f g i xs = xs.map f := by
  simp [mapTo2, List.take_of_length_le (by omega : xs.length ≤ i), List.drop_eq_nil_of_le (by omega : xs.length ≤ i)]
/-- A box whose rows have been taken away. -/
def hollow (b : Box) : D := .agg [.str b.name, .int .i64 b.valid, .int .i64 b.next, .int .i64 b.mod, .undef, .undef, .int .i64 b.horizon]
def holIf (p : Box → Bool) (b : Box) : D := if p b = true then hollow b else encBox false true b
theorem small_row {a b : Nat} (h1 : a ≤ 4) (h2 : b ≤ 4) : (a + 1 + b + 1) * 96 ≤ 140737488351232 ∧ (a + (b + 1) + 1) * 96 ≤ 140737488351232 := by omega
end Go.Proofs.YtomeglmblhfafaaGreatDoor
