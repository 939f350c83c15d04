/- Small functions of the program and of the reference: within, EventOk, flags, names. -/
import Derived.Test.YtomeglmblhfafaaGreatDoorcDat
set_option linter.unusedSectionVars false
set_option linter.all false
set_option linter.unusedVariables false
set_option linter.unusedSimpArgs false
set_option maxRecDepth 100000
namespace Go.Proofs.YtomeglmblhfafaaGreatDoor
open Go.Lft

end Go.Proofs.YtomeglmblhfafaaGreatDoor

set_option linter.unusedVariables false
set_option linter.unusedSimpArgs false
set_option maxRecDepth 100000
namespace Go.Proofs.YtomeglmblhfafaaGreatDoor
open Go.Lft

def within (a b c : Int) : Bool := decide (b ≤ a) && decide (a ≤ c)
theorem all_take {α : Type} {f : α → Bool} {xs : List α} {i : Nat} (h : ¬ i < xs.length) (ht : (xs.take i).all f = true) : xs.all f = true := by
  rwa [List.take_of_length_le (by omega)] at ht
theorem all_next {α : Type} {f : α → Bool} {xs : List α} {i : Nat} (h : i < xs.length) (ht : (xs.take i).all f = true) (hx : f xs[i] = true) : (xs.take (i + 1)).all f = true := by
  rw [List.take_succ_eq_append_getElem h, List.all_append, ht]; simpa using hx
theorem all_bad {α : Type} {f : α → Bool} {xs : List α} {i : Nat} (h : i < xs.length) (hx : f xs[i] = false) : xs.all f = false := by
  rw [List.all_eq_false]
  exact ⟨xs[i], List.getElem_mem h, by simp [hx]⟩
@[simp] theorem eq_within (a b c : Int) : lim E 58 [.int .i64 a, .int .i64 b, .int .i64 c] = some (.bool (within a b c), []) := by
  refine lim_run (E := E) rfl Tryz.func58 rfl (by kernel_rfl) (by kernel_rfl) ?_
  simp [Tryz.f58, tmpAt]
  refine RG_dec ?_ ?_ <;> intro h <;> simp [tmpAt, h, within]
@[simp] theorem eq_l01In (a b c : Int) : lim E 91 [.int .i64 a, .int .i64 b, .int .i64 c] = some (.bool (within a b c), []) := by
  refine lim_run (E := E) rfl Tryz.func91 rfl (by kernel_rfl) (by kernel_rfl) ?_
  simp [Tryz.f91, tmpAt]
  refine RG_dec ?_ ?_ <;> intro h <;> simp [tmpAt, h, within]
def eventOk (e : Event) : Bool := e.words.all (fun w => decide (w.length ≤ 60)) && (within e.kind 1 4 && (within e.who 0 1 && (decide ((e.words.length : Int) ≤ 12) && (within e.n 0 100000 && decide ((e.left_.length : Int) ≤ 4)))))
theorem eq_EventOk (e : Event) (h1 : szEvent e ≤ 1048576) : lim E 162 [encEvent false e] = some (.bool (eventOk e), []) := by
  have hz : szEvent e = (e.words.length + tot (fun (y : S) => y.length) e.words) + e.left_.length := rfl
  refine lim_run (E := E) rfl Tryz.func162 rfl (by kernel_rfl) (by kernel_rfl) ?_
  simp [Tryz.f162, tmpAt]
  refine loop_ind (fun m st => ∃ i : Nat, i + m = e.words.length ∧ (e.words.take i).all (fun w => decide (w.length ≤ 60)) = true ∧ st.env 1 = .ptr (1,0) [] ∧ st.env 6 = .lst false 9 1 (e.words.map .str) ∧ st.env 7 = .int .i64 e.words.length ∧ st.env 8 = .int .i64 i ∧ st.rs (1, 0) = some ⟨true, encEvent false e⟩) e.words.length _ ?_ ?_
  · exact ⟨0, by simp⟩
  rintro m ⟨env, rs⟩ ⟨i, hi, ha, e1, e6, e7, e8, r⟩ ih
  have hu := wrap_up (show i < 4611686018427387904 by omega)
  simp at e1 e6 e7 e8 r
  simp [e1, e6, e7, e8, r]
  refine RB_dec ?_ ?_ <;> intro h
  · simp [e1, e6, e7, e8, r, h]
    refine RB_dec ?_ ?_ <;> intro h2
    · have hb := all_bad (f := fun w => decide (w.length ≤ 60)) h (by simp; omega)
      simp [eventOk, hb]
    · simp [e1, e6, e7, e8, r, h, hu]
      refine ih (m - 1) _ (by omega) ⟨i + 1, by omega, all_next h ha (by simp; omega), ?_⟩
      simp [e1, e6, e7, e8, r]
  · have hb := all_take h ha
    simp [e1, e6, e7, e8, r, h, tmpAt, eventOk, hb]
    refine RG_split ?_ ?_ <;> intro g1 <;> simp [tmpAt, g1, e1, e6, e7, e8, r]
    refine RG_split ?_ ?_ <;> intro g2 <;> simp [tmpAt, g1, g2, e1, e6, e7, e8, r]
    refine RG_dec ?_ ?_ <;> intro g3 <;> simp [tmpAt, g1, g2, g3, e1, e6, e7, e8, r]
    refine RG_split ?_ ?_ <;> intro g4 <;> simp [tmpAt, g1, g2, g3, g4, e1, e6, e7, e8, r]
end Go.Proofs.YtomeglmblhfafaaGreatDoor
