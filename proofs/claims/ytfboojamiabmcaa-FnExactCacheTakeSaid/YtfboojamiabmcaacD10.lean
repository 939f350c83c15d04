/- Boxes: the reference's SetFlags. -/
import Derived.Test.YtfboojamiabmcaacD3
import Derived.Test.YtfboojamiabmcaacD9
set_option linter.unusedSectionVars false
set_option linter.all false
set_option linter.unusedVariables false
set_option linter.unusedSimpArgs false
set_option maxRecDepth 100000
namespace Go.Proofs.Ytfboojamiabmcaa
open Go.Lft

/-! ### The first so many changed -/
def mapTo {α : Type} (f : α → α) (i : Nat) (xs : List α) : List α := (xs.take i).map f ++ xs.drop i
@[simp] theorem mapTo_zero {α : Type} (f : α → α) (xs : List α) : mapTo f 0 xs = xs := by simp [mapTo]
@[simp] theorem mapTo_len {α : Type} (f : α → α) (i : Nat) (xs : List α) : (mapTo f i xs).length = xs.length := by simp [mapTo]; omega
@[simp] theorem mapTo_get {α : Type} (f : α → α) (i : Nat) (xs : List α) (h : i < (mapTo f i xs).length) : (mapTo f i xs)[i] = xs[i]'(by simpa using h) := by
  have h' : i < xs.length := by simpa using h
  simp [mapTo, List.getElem_append, Nat.min_eq_left (by omega : i ≤ xs.length)]
theorem mapTo_set {α : Type} (f : α → α) (i : Nat) (xs : List α) (h : i < xs.length) : (mapTo f i xs).set i (f xs[i]) = mapTo f (i + 1) xs := by
  have hl : ((xs.take i).map f).length = i := by simp; omega
  simp only [mapTo]
  rw [List.set_append_right _ _ (by omega), hl, Nat.sub_self, List.take_succ_eq_append_getElem h, List.drop_eq_getElem_cons h]
  simp only [List.set_cons_zero, List.map_append, List.map_cons, List.map_nil, List.append_assoc, List.cons_append, List.nil_append]
theorem mapTo_same {α : Type} (f : α → α) (i : Nat) (xs : List α) (h : i < xs.length) (hf : f xs[i] = xs[i]) : mapTo f (i + 1) xs = mapTo f i xs := by
  simp only [mapTo]
  rw [List.take_succ_eq_append_getElem h, List.drop_eq_getElem_cons h]
  simp only [List.map_append, List.map_cons, List.map_nil, List.append_assoc, List.cons_append, List.nil_append, hf]
theorem mapTo_all {α : Type} (f : α → α) (i : Nat) (xs : List α) (h : ¬ i < xs.length) : mapTo f i xs = xs.map f := by
  simp [mapTo, List.take_of_length_le (by omega : xs.length ≤ i), List.drop_eq_nil_of_le (by omega : xs.length ≤ i)]
theorem map_set' {α β : Type} (f : α → β) (xs : List α) (i : Nat) (x : α) : (xs.map f).set i (f x) = (xs.set i x).map f := by rw [List.map_set]

/-! ### One number after the other -/
def sAdds (us : List Int) : List Range := us.foldl (fun s u => (setAdd s u u).1) []
@[simp] theorem sAdds_nil : sAdds [] = [] := rfl
theorem sAdds_snoc (us : List Int) (u : Int) : sAdds (us ++ [u]) = (setAdd (sAdds us) u u).1 := by simp [sAdds]
theorem setAdd_40 {s : List Range} {lo hi : Int} (h : s.length ≤ 40) : (setAdd s lo hi).1.length ≤ 40 := by
  unfold setAdd
  split
  · split
    · rename_i h; simp [setOk] at h; simp; omega
    · exact h
  · exact h
theorem sAdds_40 (us : List Int) : (sAdds us).length ≤ 40 := by
  have key : ∀ (us : List Int) (s : List Range), s.length ≤ 40 → (us.foldl (fun s u => (setAdd s u u).1) s).length ≤ 40 := by
    intro us
    induction us with
    | nil => intro s h; exact h
    | cons u us ih => intro s h; exact ih _ (setAdd_40 h)
  exact key us [] (by simp)

/-! ### Flags set -/
def isLate (s : List Range) (since : Int) (m : Mail) : Bool := setHas s m.uid && (decide (0 ≤ since) && decide (since < m.mod))
def isDone (s : List Range) (how bits since : Int) (m : Mail) : Bool := setHas s m.uid && !(decide (0 ≤ since) && decide (since < m.mod)) && decide (flagsAfter m.flags how bits ≠ m.flags)
def flagged (b : Box) (s : List Range) (how bits since : Int) (m : Mail) : Mail := if isDone s how bits since m = true then ⟨m.uid, flagsAfter m.flags how bits, b.mod + 1, m.text⟩ else m
def doneU (s : List Range) (how bits since : Int) (ms : List Mail) : List Int := (ms.filter (isDone s how bits since)).map (·.uid)
def lateU (s : List Range) (since : Int) (ms : List Mail) : List Int := (ms.filter (isLate s since)).map (·.uid)
def modAfter (b : Box) (s : List Range) (how bits since : Int) (ms : List Mail) : Int := if ms.any (isDone s how bits since) = true then b.mod + 1 else b.mod
def flagBox (b : Box) (s : List Range) (how bits since : Int) : Box := ⟨b.name, b.valid, b.next, modAfter b s how bits since b.mails, b.mails.map (flagged b s how bits since), b.tombs, b.horizon⟩
noncomputable def setFlagsOk (b : Box) (s : List Range) (how bits : Int) : Bool := boxOk b && (setOk s && (within how 1 3 && within bits 0 31))
noncomputable def setFlags (b : Box) (s : List Range) (how bits since : Int) : Box × List Int × List Int :=
  if setFlagsOk b s how bits = true ∧ boxOk (flagBox b s how bits since) = true then (flagBox b s how bits since, doneU s how bits since b.mails, lateU s since b.mails) else (b, [], [])
theorem sz_flagBox (b : Box) (s : List Range) (how bits since : Int) : szBox (flagBox b s how bits since) = szBox b := by
  have key : ∀ ms : List Mail, tot (fun y => szMail y) (ms.map (flagged b s how bits since)) = tot (fun y => szMail y) ms := by
    intro ms
    induction ms with
    | nil => rfl
    | cons m ms ih =>
      simp only [List.map_cons, tot, ih]
      congr 1
      unfold flagged szMail
      split <;> rfl
  simp [szBox, flagBox, key]
theorem take_filter {α : Type} (p : α → Bool) (xs : List α) (i : Nat) (h : i < xs.length) : (xs.take (i + 1)).filter p = (xs.take i).filter p ++ (if p xs[i] = true then [xs[i]] else []) := by
  rw [List.take_succ_eq_append_getElem h, List.filter_append]
  congr 1
  by_cases hp : p xs[i] = true <;> simp [hp]
theorem take_any {α : Type} (p : α → Bool) (xs : List α) (i : Nat) (h : i < xs.length) : (xs.take (i + 1)).any p = ((xs.take i).any p || p xs[i]) := by
  rw [List.take_succ_eq_append_getElem h, List.any_append]; simp
theorem doneU_next (s : List Range) (how bits since : Int) (ms : List Mail) (i : Nat) (h : i < ms.length) : doneU s how bits since (ms.take (i + 1)) = doneU s how bits since (ms.take i) ++ (if isDone s how bits since ms[i] = true then [ms[i].uid] else []) := by
  unfold doneU
  rw [take_filter _ _ _ h, List.map_append]
  congr 1
  split <;> rfl
theorem lateU_next (s : List Range) (since : Int) (ms : List Mail) (i : Nat) (h : i < ms.length) : lateU s since (ms.take (i + 1)) = lateU s since (ms.take i) ++ (if isLate s since ms[i] = true then [ms[i].uid] else []) := by
  unfold lateU
  rw [take_filter _ _ _ h, List.map_append]
  congr 1
  split <;> rfl
theorem modAfter_next (b : Box) (s : List Range) (how bits since : Int) (ms : List Mail) (i : Nat) (h : i < ms.length) : modAfter b s how bits since (ms.take (i + 1)) = if isDone s how bits since ms[i] = true then b.mod + 1 else modAfter b s how bits since (ms.take i) := by
  unfold modAfter
  rw [take_any _ _ _ h]
  cases isDone s how bits since ms[i] <;> simp
end Go.Proofs.Ytfboojamiabmcaa
