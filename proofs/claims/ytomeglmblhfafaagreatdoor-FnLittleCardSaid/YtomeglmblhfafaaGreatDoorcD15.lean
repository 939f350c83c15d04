/- Rows: what is deleted by a function. -/
import Derived.Test.YtomeglmblhfafaaGreatDoorcD14
set_option linter.unusedSectionVars false
set_option linter.all false
set_option linter.unusedVariables false
set_option linter.unusedSimpArgs false
set_option maxRecDepth 100000
namespace Go.Proofs.YtomeglmblhfafaaGreatDoor
open Go.Lft

theorem idxOf_some {α : Type} {p : α → Bool} {xs : List α} (h : xs.any p = true) : ∃ i, ∃ hi : i < xs.length, idxOf p xs = (i : Int) ∧ (xs.take i).any p = false ∧ p xs[i] = true := by
  cases hf : xs.findIdx? p with
  | none =>
    rw [List.findIdx?_eq_none_iff] at hf
    rw [List.any_eq_true] at h
    obtain ⟨x, hx, hp⟩ := h
    rw [hf x hx] at hp; cases hp
  | some i =>
    have := hf
    rw [List.findIdx?_eq_some_iff_getElem] at this
    obtain ⟨hi, hp, hj⟩ := this
    refine ⟨i, hi, by simp [idxOf, hf], ?_, hp⟩
    rw [List.any_eq_false]
    intro x hx
    rw [List.mem_take_iff_getElem] at hx
    obtain ⟨j, hj2, rfl⟩ := hx
    have := hj j (by omega)
    simpa using this
theorem filter_none {α : Type} {p : α → Bool} {xs : List α} (h : xs.any p = false) : xs.filter (fun x => !p x) = xs := by
  rw [List.filter_eq_self]
  intro x hx
  rw [List.any_eq_false] at h
  simpa using h x hx
theorem keep_next {α : Type} (p : α → Bool) (xs : List α) (j : Nat) (h : j < xs.length) : (xs.take (j + 1)).filter (fun x => !p x) = (xs.take j).filter (fun x => !p x) ++ (if p xs[j] = true then [] else [xs[j]]) := by
  rw [take_filter _ _ _ h]
  congr 1
  cases p xs[j] <;> simp
theorem keep_lt {α : Type} {p : α → Bool} {xs : List α} {i j : Nat} (hi : i < xs.length) (hp : p xs[i] = true) (hij : i < j) (hj : j ≤ xs.length) : ((xs.take j).filter (fun x => !p x)).length < j := by
  have h1 : ((xs.take j).filter (fun x => !p x)).length < (xs.take j).length := by
    rw [List.length_filter_lt_length_iff_exists]
    exact ⟨xs[i], by rw [List.mem_take_iff_getElem]; exact ⟨i, by omega, rfl⟩, by simp [hp]⟩
  rw [List.length_take] at h1
  omega
theorem over_set {α : Type} (f : α → D) (L xs : List α) (v : α) (h : L.length < xs.length) : (L.map f ++ (xs.map f).drop L.length).set L.length (f v) = L.map f ++ f v :: (xs.map f).drop (L.length + 1) := by
  rw [List.set_append_right _ _ (by simp), List.length_map, Nat.sub_self, List.drop_eq_getElem_cons (by simpa using h)]
  simp only [List.set_cons_zero]
theorem over_get {α : Type} (f : α → D) (L xs : List α) (j : Nat) (h : j < xs.length) (hl : L.length ≤ j) (h' : j < (L.map f ++ (xs.map f).drop L.length).length) : (L.map f ++ (xs.map f).drop L.length)[j] = f xs[j] := by
  rw [List.getElem_append_right (by simpa using hl)]
  simp only [List.length_map, List.getElem_map, List.getElem_drop]
  congr 2
  omega
end Go.Proofs.YtomeglmblhfafaaGreatDoor
