/- Long regions that draw, of which few operations touch memory. -/
import Derived.Test.YtomeglmblhfafaaGreatDoorcA2
set_option linter.unusedSectionVars false
set_option linter.all false
set_option linter.unusedVariables false
set_option linter.unusedSimpArgs false
namespace Go.Proofs.YtomeglmblhfafaaGreatDoor
open Go.Lft

def quietBut (Q : List Nat) : Nat → List Tr → Bool
  | _, [] => true
  | i, a :: l => (Q.contains i || a.quiet) && quietBut Q (i + 1) l
theorem quietBut_at {Q : List Nat} : ∀ {ts : List Tr} {i k : Nat} {a : Tr}, quietBut Q i ts = true → ts[k]? = some a → Q.contains (i + k) = true ∨ a.quiet = true
  | [], i, k, a, _, h => by simp at h
  | b :: ts, i, 0, a, hq, h => by
    simp only [List.getElem?_cons_zero, Option.some.injEq] at h
    subst h
    simp only [quietBut, Bool.and_eq_true, Bool.or_eq_true] at hq
    simpa using hq.1
  | b :: ts, i, k + 1, a, hq, h => by
    simp only [List.getElem?_cons_succ] at h
    simp only [quietBut, Bool.and_eq_true] at hq
    have := quietBut_at hq.2 h
    rwa [show i + 1 + k = i + (k + 1) by omega] at this
theorem trOk_few {ops : Array Oper} {ts : List Tr} {L : List (Nat × Nat)} (Q : List Nat) (hu : (unord ops).filter (fun p => Q.contains p.1 || Q.contains p.2) = L) (hn : ts.length ≤ ops.size) (hq : quietBut Q 0 ts = true) (h : L.all (indepAt ts) = true) : trOk ops 0 ts = true := by
  refine trOk_unord rfl hn ?_
  rw [List.all_eq_true]
  intro p hp
  by_cases hc : (Q.contains p.1 || Q.contains p.2) = true
  · exact List.all_eq_true.1 h _ (hu ▸ List.mem_filter.2 ⟨hp, hc⟩)
  · simp only [Bool.or_eq_true, not_or, Bool.not_eq_true] at hc
    unfold indepAt
    split
    · rename_i a b ha hb
      have h1 := quietBut_at hq ha
      have h2 := quietBut_at hq hb
      simp only [Nat.zero_add, hc.1, hc.2, Bool.false_eq_true, false_or] at h1 h2
      simp [indep, h1, h2]
    · rfl
end Go.Proofs.YtomeglmblhfafaaGreatDoor
