/- Boxes: AddMail of the program and of the reference. -/
import Derived.Test.YtomeglmblhfafaaGreatDoorcD6
import Derived.Test.YtomeglmblhfafaaGreatDoorcD7
set_option linter.unusedSectionVars false
set_option linter.all false
set_option linter.unusedVariables false
set_option linter.unusedSimpArgs false
set_option maxRecDepth 100000
namespace Go.Proofs.YtomeglmblhfafaaGreatDoor
open Go.Lft

theorem freeze_agg_map {α : Type} (f : α → D) (h : ∀ x, D.freeze (f x) = f x) (xs : List α) : D.freezeL (xs.map f) = xs.map f := fr_map f f h xs
@[simp] theorem fr_append (xs ys : List D) : D.freezeL (xs ++ ys) = D.freezeL xs ++ D.freezeL ys := by rw [D.freezeL_map, D.freezeL_map, D.freezeL_map, List.map_append]
@[simp] theorem fr_take (xs : List D) (n : Nat) : D.freezeL (xs.take n) = (D.freezeL xs).take n := by rw [D.freezeL_map, D.freezeL_map, List.map_take]
@[simp] theorem cold_append (xs ys : List D) : D.coldL (xs ++ ys) = (D.coldL xs || D.coldL ys) := by
  induction xs with
  | nil => simp
  | cons x xs ih => simp [ih, Bool.or_assoc]
@[simp] theorem cold_mails (xs : List Mail) : D.coldL (xs.map encMail) = false := cold_map _ (by simp) xs
@[simp] theorem cold_tombs (xs : List Tomb) : D.coldL (xs.map encTomb) = false := cold_map _ (by simp) xs
@[simp] theorem fr_mails (xs : List Mail) : D.freezeL (xs.map encMail) = xs.map encMail := fr_map _ _ (by simp) xs
@[simp] theorem fr_tombs (xs : List Tomb) : D.freezeL (xs.map encTomb) = xs.map encTomb := fr_map _ _ (by simp) xs
@[simp] theorem take_whole {α : Type} {l : List α} {i : Nat} (h : l.length ≤ i) : l.take i = l := List.take_of_length_le h
theorem eq_copyBox (b : Box) (hs : szBox b ≤ 16777216) : lim E 105 [encBox false false b] = some (encBox false true b, []) := by
  have hz : szBox b = b.name.length + (b.mails.length + tot (fun (y : Mail) => szMail y) b.mails) + b.tombs.length := rfl
  have h1 : b.mails.length * 40 ≤ 140737488351232 := by omega
  have h2 : b.tombs.length * 16 ≤ 140737488351232 := by omega
  refine lim_run (E := E) rfl Tryz.func105 rfl (by kernel_rfl) (by kernel_rfl) ?_
  simp [Tryz.f105, tmpAt, h1, h2]
  exact trOk_unord (L := [(0, 1), (0, 2), (0, 4), (0, 5), (0, 6), (1, 4), (1, 5), (1, 6), (2, 4), (2, 5), (2, 6), (3, 4), (3, 5), (3, 6), (4, 5), (4, 6), (4, 8), (7, 8)]) (by kernel_rfl) (by simp) (by simp [indepAt, indep, spares, around, aside, pre, isSlc, Tr.feels, Tr.all, moves, bare, opData, isExt, cmpOf, Op.operands, Call.operands, mentL, ment, D.noUndefL, D.noUndef, pureE])
theorem eq_l08Copy (b : Box) (hs : szBox b ≤ 16777216) : lim E 56 [encBox false false b] = some (encBox false true b, []) := by
  have hz : szBox b = b.name.length + (b.mails.length + tot (fun (y : Mail) => szMail y) b.mails) + b.tombs.length := rfl
  have h1 : b.mails.length * 40 ≤ 140737488351232 := by omega
  have h2 : b.tombs.length * 16 ≤ 140737488351232 := by omega
  refine lim_run (E := E) rfl Tryz.func56 rfl (by kernel_rfl) (by kernel_rfl) ?_
  simp [Tryz.f56, tmpAt, h1, h2]
def boxNew (name : S) (valid : Int) : Box := ⟨name, valid, 1, 1, [], [], 0⟩
noncomputable def boxNewR (name : S) (valid : Int) : Box := if boxOk (boxNew name valid) = true then boxNew name valid else ⟨[], 0, 0, 0, [], [], 0⟩
theorem eq_BoxNew (name : S) (valid : Int) (hn : name.length ≤ 16777216) : lim E 67 [.str name, .int .i64 valid] = some (.tup [encBox false true (boxNewR name valid), .bool (boxOk (boxNew name valid))], []) := by
  have w := eq_BoxOk (boxNew name valid) (by simp [szBox, boxNew, tot]; omega)
  simp [boxNew] at w
  refine lim_run (E := E) rfl Tryz.func67 rfl (by kernel_rfl) (by kernel_rfl) ?_
  simp [Tryz.f67, tmpAt, w]
  cases h : boxOk (boxNew name valid) <;> simp [boxNew] at h <;> simp [h, boxNewR, boxNew, tot]
theorem eq_sBoxNew (name : S) (valid : Int) (hn : name.length ≤ 16777216) : lim E 154 [.str name, .int .i64 valid] = some (.tup [encBox false true (boxNewR name valid), .bool (boxOk (boxNew name valid))], []) := by
  have w := eq_sBoxOk (boxNew name valid) (by simp [szBox, boxNew, tot]; omega)
  simp [boxNew] at w
  refine lim_run (E := E) rfl Tryz.func154 rfl (by kernel_rfl) (by kernel_rfl) ?_
  simp [Tryz.f154, tmpAt, w]
  cases h : boxOk (boxNew name valid) <;> simp [boxNew] at h <;> simp [h, boxNewR, boxNew, tot]
end Go.Proofs.YtomeglmblhfafaaGreatDoor

set_option linter.unusedVariables false
set_option linter.unusedSimpArgs false
set_option maxRecDepth 100000
namespace Go.Proofs.YtomeglmblhfafaaGreatDoor
open Go.Lft

def added (b : Box) (flags : Int) (text : S) : Box := ⟨b.name, b.valid, b.next + 1, b.mod + 1, b.mails ++ [⟨b.next, flags, b.mod + 1, text⟩], b.tombs, b.horizon⟩
noncomputable def addMail (b : Box) (flags : Int) (text : S) : Box × Int := if boxOk b = true ∧ boxOk (added b flags text) = true then (added b flags text, b.next) else (b, 0)
theorem tot_append {α : Type} (f : α → Nat) : ∀ (xs ys : List α), tot f (xs ++ ys) = tot f xs + tot f ys
  | [], ys => by simp [tot]
  | x :: xs, ys => by simp [tot, tot_append f xs ys]; omega
theorem sz_added (b : Box) (flags : Int) (text : S) : szBox (added b flags text) = szBox b + 1 + text.length := by
  simp [szBox, added, tot_append, tot, szMail]; omega
theorem boxOk_nums {b : Box} (h : boxOk b = true) : 1 ≤ b.next ∧ b.next ≤ 9999 ∧ 1 ≤ b.mod ∧ b.mod ≤ 100000 ∧ 0 ≤ b.horizon ∧ b.horizon ≤ b.mod ∧ 1 ≤ b.valid ∧ b.valid ≤ 9999 := by
  simp [boxOk, BoxOK, NumsOK, within] at h
  omega
theorem boxOk_lens {b : Box} (h : boxOk b = true) : b.mails.length ≤ 30 ∧ b.tombs.length ≤ 40 := by
  unfold boxOk at h
  obtain ⟨_, _, ⟨_, h1⟩, ⟨_, h2⟩⟩ := of_decide_eq_true h
  exact ⟨h1, h2⟩
theorem eq_sAddMail (b : Box) (flags : Int) (text : S) (hs : szBox b + text.length ≤ 16777200) : lim E 113 [encBox false false b, .int .i64 flags, .str text] = some (.tup [encBox false true (addMail b flags text).1, .int .i64 (addMail b flags text).2], []) := by
  have hz : szBox b = b.name.length + (b.mails.length + tot (fun (y : Mail) => szMail y) b.mails) + b.tombs.length := rfl
  have w1 := eq_sBoxOk b (by omega)
  try simp at w1
  have w2 := eq_l08Copy b (by omega)
  try simp at w2
  have h1 : (b.mails.length + 1) * 40 ≤ 140737488351232 := by omega
  cases hok : boxOk b
  · rw [hok] at w1
    refine lim_run (E := E) rfl Tryz.func113 rfl (by kernel_rfl) (by kernel_rfl) ?_
    simp [Tryz.f113, tmpAt, w1, w2, h1]
    simp [addMail, hok]
  · rw [hok] at w1
    have hn := boxOk_nums hok
    have hw1 : IntKind.i64.wrap (b.next + 1) = b.next + 1 := wrap_in (by omega) (by omega)
    have hw2 : IntKind.i64.wrap (b.mod + 1) = b.mod + 1 := wrap_in (by omega) (by omega)
    have w3 := eq_sBoxOk (added b flags text) (by rw [sz_added]; omega)
    simp [added] at w3
    refine lim_run (E := E) rfl Tryz.func113 rfl (by kernel_rfl) (by kernel_rfl) ?_
    simp [Tryz.f113, tmpAt, w1, w2, w3, h1, hw1, hw2]
    cases hb : boxOk (added b flags text) <;> simp [added] at hb <;> simp [hb, addMail, hok, added, w2]
    exact trOk_unord (L := [(0, 1), (0, 2), (1, 3), (2, 3)]) (by kernel_rfl) (by simp) (by simp [indepAt, indep, spares, around, aside, pre, isSlc, Tr.feels, Tr.all, moves, bare, opData, isExt, cmpOf, Op.operands, Call.operands, mentL, ment, D.noUndefL, D.noUndef, pureE])
end Go.Proofs.YtomeglmblhfafaaGreatDoor
