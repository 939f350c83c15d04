/- Small functions of the program and of the reference: within, EventOk, flags, names. -/
import Derived.Test.YtfboojamiabmcaacHlp
set_option linter.unusedSectionVars false
set_option linter.all false
set_option linter.unusedVariables false
set_option linter.unusedSimpArgs false
set_option maxRecDepth 100000
namespace Go.Proofs.Ytfboojamiabmcaa
open Go.Lft

def within (a b c : Int) : Bool := decide (b ≤ a) && decide (a ≤ c)
theorem all_take {α : Type} {f : α → Bool} {xs : List α} {i : Nat} (h : ¬ i < xs.length) (ht : (xs.take i).all f = true) : xs.all f = true := by
  rwa [List.take_of_length_le (by omega)] at ht
theorem all_next {α : Type} {f : α → Bool} {xs : List α} {i : Nat} (h : i < xs.length) (ht : (xs.take i).all f = true) (hx : f xs[i] = true) : (xs.take (i + 1)).all f = true := by
  rw [List.take_succ_eq_append_getElem h, List.all_append, ht]; simpa using hx
theorem all_bad {α : Type} {f : α → Bool} {xs : List α} {i : Nat} (h : i < xs.length) (hx : f xs[i] = false) : xs.all f = false := by
  rw [List.all_eq_false]
  exact ⟨xs[i], List.getElem_mem h, by simp [hx]⟩
@[simp] theorem eq_within (a b c : Int) : lim E 81 [.int .i64 a, .int .i64 b, .int .i64 c] = some (.bool (within a b c), []) := by
  refine lim_run (E := E) rfl Try.func81 rfl (by kernel_rfl) (by kernel_rfl) ?_
  simp [Try.f81, tmpAt]
  refine RG_dec ?_ ?_ <;> intro h <;> simp [tmpAt, h, within]
@[simp] theorem eq_l01In (a b c : Int) : lim E 69 [.int .i64 a, .int .i64 b, .int .i64 c] = some (.bool (within a b c), []) := by
  refine lim_run (E := E) rfl Try.func69 rfl (by kernel_rfl) (by kernel_rfl) ?_
  simp [Try.f69, tmpAt]
  refine RG_dec ?_ ?_ <;> intro h <;> simp [tmpAt, h, within]
end Go.Proofs.Ytfboojamiabmcaa
