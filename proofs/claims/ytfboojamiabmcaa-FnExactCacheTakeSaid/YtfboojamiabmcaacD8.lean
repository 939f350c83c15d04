/- Boxes: copies, new ones, mails added: of the program and of the reference. -/
import Derived.Test.YtfboojamiabmcaacD6
import Derived.Test.YtfboojamiabmcaacD7
set_option linter.unusedSectionVars false
set_option linter.all false
set_option linter.unusedVariables false
set_option linter.unusedSimpArgs false
set_option maxRecDepth 100000
namespace Go.Proofs.Ytfboojamiabmcaa
open Go.Lft

theorem freeze_agg_map {α : Type} (f : α → D) (h : ∀ x, D.freeze (f x) = f x) (xs : List α) : D.freezeL (xs.map f) = xs.map f := fr_map f f h xs
@[simp] theorem fr_append (xs ys : List D) : D.freezeL (xs ++ ys) = D.freezeL xs ++ D.freezeL ys := by rw [D.freezeL_map, D.freezeL_map, D.freezeL_map, List.map_append]
@[simp] theorem fr_take (xs : List D) (n : Nat) : D.freezeL (xs.take n) = (D.freezeL xs).take n := by rw [D.freezeL_map, D.freezeL_map, List.map_take]
@[simp] theorem cold_append (xs ys : List D) : D.coldL (xs ++ ys) = (D.coldL xs || D.coldL ys) := by
  induction xs with
  | nil => simp
  | cons x xs ih => simp [ih, Bool.or_assoc]
@[simp] theorem cold_mails (xs : List Mail) : D.coldL (xs.map encMail) = false := cold_map _ (by simp) xs
@[simp] theorem cold_tombs (xs : List Tomb) : D.coldL (xs.map encTomb) = false := cold_map _ (by simp) xs
@[simp] theorem fr_mails (xs : List Mail) : D.freezeL (xs.map encMail) = xs.map encMail := fr_map _ _ (by simp) xs
@[simp] theorem fr_tombs (xs : List Tomb) : D.freezeL (xs.map encTomb) = xs.map encTomb := fr_map _ _ (by simp) xs
@[simp] theorem take_whole {α : Type} {l : List α} {i : Nat} (h : l.length ≤ i) : l.take i = l := List.take_of_length_le h
def boxNew (name : S) (valid : Int) : Box := ⟨name, valid, 1, 1, [], [], 0⟩
noncomputable def boxNewR (name : S) (valid : Int) : Box := if boxOk (boxNew name valid) = true then boxNew name valid else ⟨[], 0, 0, 0, [], [], 0⟩
end Go.Proofs.Ytfboojamiabmcaa
