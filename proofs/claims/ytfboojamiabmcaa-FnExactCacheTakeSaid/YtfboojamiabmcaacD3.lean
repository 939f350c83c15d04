/- Sets of numbers: SetAdd of the reference; the program's set of a list. -/
import Derived.Test.YtfboojamiabmcaacD2
set_option linter.unusedSectionVars false
set_option linter.all false
set_option linter.unusedVariables false
set_option linter.unusedSimpArgs false
set_option maxRecDepth 100000
namespace Go.Proofs.Ytfboojamiabmcaa
open Go.Lft

theorem setUpto_one (f : Nat → Bool) (n : Nat) (h : f (n + 1) = true) (h2 : f n = true) (h0 : f 0 = false) (hn : n ≤ 9999) : ∃ (l : List Range) (r : Range), setUpto f n = l ++ [r] ∧ r.hi = (n : Int) ∧ setUpto f (n + 1) = l ++ [⟨r.lo, (n + 1 : Nat)⟩] := by
  obtain ⟨l, r, e, hr⟩ := (setUpto_ok f h0 n hn).2.2.1 h2
  exact ⟨l, r, e, hr, by simp [setUpto, h, h2, e]⟩
theorem setUpto_new (f : Nat → Bool) (n : Nat) (h : f (n + 1) = true) (h2 : f n = false) : setUpto f (n + 1) = setUpto f n ++ [⟨(n + 1 : Nat), (n + 1 : Nat)⟩] := by simp [setUpto, h, h2]
theorem setUpto_same (f : Nat → Bool) (n : Nat) (h : f (n + 1) = false) : setUpto f (n + 1) = setUpto f n := by simp [setUpto, h]
theorem setUpto_len (f : Nat → Bool) : ∀ n : Nat, (setUpto f n).length ≤ n
  | 0 => by simp [setUpto]
  | n + 1 => by
    have ih := setUpto_len f n
    simp only [setUpto]
    split
    · split
      · simp; omega
      · simp; omega
    · omega
theorem set_last {α : Type} (l : List α) (x y : α) : (l ++ [x]).set l.length y = l ++ [y] := by simp
/-! ### The program's set of a list -/
/-- One more of numbers that ascend. -/
def setSnoc (out : List Range) (n : Int) : List Range :=
  match out.getLast? with
  | none => out ++ [⟨n, n⟩]
  | some r => if r.hi = n - 1 then out.dropLast ++ [⟨r.lo, n⟩] else out ++ [⟨n, n⟩]
def setOfL (xs : List Int) : List Range := xs.foldl setSnoc []
theorem setSnoc_len (out : List Range) (n : Int) : (setSnoc out n).length ≤ out.length + 1 := by
  unfold setSnoc
  split
  · simp
  · split
    · simp <;> omega
    · simp
theorem setOfL_snoc (xs : List Int) (n : Int) : setOfL (xs ++ [n]) = setSnoc (setOfL xs) n := by simp [setOfL]
theorem setOfL_len (xs : List Int) : (setOfL xs).length ≤ xs.length := by
  have key : ∀ (xs : List Int) (out : List Range), (xs.foldl setSnoc out).length ≤ out.length + xs.length := by
    intro xs
    induction xs with
    | nil => intro out; simp
    | cons x xs ih => intro out; have h1 := ih (setSnoc out x); have h2 := setSnoc_len out x; simp; omega
  have := key xs []
  simpa [setOfL] using this
end Go.Proofs.Ytfboojamiabmcaa
