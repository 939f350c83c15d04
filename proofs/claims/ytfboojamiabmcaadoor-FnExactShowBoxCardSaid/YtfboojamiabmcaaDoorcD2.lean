/- Sets of numbers: the reference's SetOk, SetHas, SetAdd. -/
import Derived.Test.YtfboojamiabmcaaDoorcD1
set_option linter.unusedSectionVars false
set_option linter.all false
set_option linter.unusedVariables false
set_option linter.unusedSimpArgs false
set_option maxRecDepth 100000
namespace Go.Proofs.YtfboojamiabmcaaDoor
open Go.Lft

/-! ### Marks -/
def bitsD (f : Nat → Bool) : List D := (List.range 10001).map fun n => .bool (f n)
@[simp] theorem bitsD_len (f : Nat → Bool) : (bitsD f).length = 10001 := by rw [bitsD, List.length_map, List.length_range]
@[simp] theorem fr_bitsD (f : Nat → Bool) : D.freezeL (bitsD f) = bitsD f := fr_map _ _ (by simp) _
@[simp] theorem cold_bitsD (f : Nat → Bool) : D.coldL (bitsD f) = false := cold_map _ (by simp) _
theorem bitsD_none : List.replicate 10001 (D.bool false) = bitsD (fun _ => false) := by
  rw [bitsD]
  apply List.ext_getElem
  · rw [List.length_replicate, List.length_map, List.length_range]
  · intro i h1 h2; rw [List.getElem_replicate, List.getElem_map]
@[simp] theorem bitsD_get (f : Nat → Bool) (i : Nat) (h : i < (bitsD f).length) : (bitsD f)[i] = .bool (f i) := by
  simp only [bitsD, List.getElem_map, List.getElem_range]
@[simp] theorem bitsD_take (f : Nat → Bool) : List.take 10001 (bitsD f) = bitsD f := List.take_of_length_le (by rw [bitsD_len]; exact Nat.le_refl _)
theorem bitsD_set (f : Nat → Bool) (i : Nat) (v : Bool) : (bitsD f).set i (.bool v) = bitsD (fun n => if n = i then v else f n) := by
  apply List.ext_getElem
  · rw [List.length_set, bitsD_len, bitsD_len]
  · intro j h1 h2
    rw [List.getElem_set]
    have hj : j < 10001 := by rw [bitsD_len] at h2; exact h2
    rw [bitsD_get, bitsD_get]
    by_cases h : i = j
    · subst h; simp
    · rw [if_neg h, if_neg (Ne.symm h)]
theorem bitsD_congr {f g : Nat → Bool} (h : ∀ n, n < 10001 → f n = g n) : bitsD f = bitsD g := by
  unfold bitsD
  apply List.map_congr_left
  intro n hn
  rw [h n (List.mem_range.1 hn)]
end Go.Proofs.YtfboojamiabmcaaDoor
