/- Commands: the reference's ReadCommand. -/
import Derived.Test.YtoeadcefgpkdcaaDoorcB6
set_option linter.unusedSectionVars false
set_option linter.all false
set_option linter.unusedVariables false
set_option linter.unusedSimpArgs false
set_option maxRecDepth 100000
namespace Go.Proofs.YtoeadcefgpkdcaaDoor
open Go.Lft

theorem st_le (t : S) : ∀ (f i : Nat) (out : S), i ≤ t.length + 1 → -1 ≤ (st t f i out).2 ∧ (st t f i out).2 ≤ t.length ∧ (0 < (st t f i out).2 → (i : Int) < (st t f i out).2) := by
  intro f
  induction f with
  | zero => intro i out h; simp [st]
  | succ f ih =>
    intro i out h
    simp only [st]
    split
    · simp
    · rename_i b hb
      have h1 := (List.getElem?_eq_some_iff.1 hb).1
      split
      · simp; omega
      split
      · simp
      split
      · split
        · simp
        · rename_i c hc
          have h2 := (List.getElem?_eq_some_iff.1 hc).1
          split
          · have := ih (i + 2) (out ++ [c]) (by omega)
            omega
          · simp
      · have := ih (i + 1) (out ++ [b]) (by omega)
        omega
theorem snext_le (t : S) (a : Nat) (ha : a ≤ t.length) : -1 ≤ (snextM t a).2 ∧ (snextM t a).2 ≤ t.length ∧ (0 < (snextM t a).2 → (a : Int) < (snextM t a).2) := by
  unfold snextM
  split
  · simp
  split
  · have h1 := slit_le t a (by omega)
    have h2 : 0 < (slit t a).2 → (a : Int) < (slit t a).2 := by
      unfold slit slitEnd
      have h3 := litL_le t 3 (a + 1) 0 (by omega)
      split
      · simp
      split
      · simp; omega
      · split <;> simp
    unfold snextLit
    split
    · simp; omega
    split
    · simp
    split
    · simp
    · simp; omega
  split
  · have := st_le t t.length (a + 1) [] (by omega)
    omega
  split
  · have := sl_le (t.drop (a + 1)) (a + 1) 0 true
    simp at this
    unfold snextList
    split <;> simp <;> omega
  · have := tw_le (t.drop a)
    simp at this
    unfold snextPlain
    split <;> simp <;> omega
def sread (t : S) : Nat → List S → Nat → List S × Int
  | 0, ws, _ => (ws, -1)
  | f + 1, ws, a =>
    if (snextM t a).2 ≤ 0 then (ws, (snextM t a).2)
    else if (snextM t a).2 = t.length then (ws ++ [(snextM t a).1], 0)
    else if isB t (snextM t a).2.toNat 13 = true then
      (if (snextM t a).2 + 1 = t.length then (ws ++ [(snextM t a).1], 0)
      else if isB t ((snextM t a).2.toNat + 1) 10 = true then (ws ++ [(snextM t a).1], (snextM t a).2 + 2) else (ws ++ [(snextM t a).1], -1))
    else if isB t (snextM t a).2.toNat 32 = false ∨ (ws ++ [(snextM t a).1]).length = 12 then (ws ++ [(snextM t a).1], -1)
    else sread t f (ws ++ [(snextM t a).1]) ((snextM t a).2.toNat + 1)
def sfin (t : S) (r : List S × Int) : List S × Int × Int := if 0 < r.2 ∧ r.2 ≤ 300 then (r.1, r.2, 0) else if r.2 = 0 ∧ t.length < 300 then ([], 0, 1) else ([], 0, 2)
end Go.Proofs.YtoeadcefgpkdcaaDoor
