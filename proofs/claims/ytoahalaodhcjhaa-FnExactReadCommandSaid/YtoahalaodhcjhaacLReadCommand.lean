/- The law FnExactReadCommand, at the level of data: true for all data. -/
import Derived.Test.YtoahalaodhcjhaacB8
import Derived.Test.YtoahalaodhcjhaacA7
set_option linter.unusedSectionVars false
set_option linter.all false
set_option linter.unusedVariables false
set_option linter.unusedSimpArgs false
set_option maxRecDepth 100000
namespace Go.Proofs.Ytoahalaodhcjhaa
open Go.Lft

theorem readM_words (t : S) : (readM t).1.length ≤ 12 := by
  have key : ∀ (f : Nat) (ws : List S) (a : Nat) (k : Int) (more : Bool), ws.length ≤ 12 → (readLoop t f ws a k more).1.length ≤ 12 := by
    intro f
    induction f with
    | zero => intro ws a k more h; exact h
    | succ f ih =>
      intro ws a k more h
      simp only [readLoop]
      split
      · split
        · exact h
        · exact ih _ _ _ _ (by simp; omega)
      · exact h
  unfold readM
  split
  · exact key 13 [] 0 0 true (by simp)
  · simp
theorem law_ReadCommand : ∀ xs, Sh.hasL [.str] xs → lim E 7 xs = some (.bool true, []) := by
  intro xs h
  obtain ⟨x, s, rfl, g, h⟩ := has_cons h
  obtain rfl := has_nil h
  obtain ⟨t, rfl, hw, hr⟩ := has_str _ g
  refine lim_run (E := E) rfl Try.func7 rfl (by kernel_rfl) (by kernel_rfl) ?_
  simp [Try.f7, tmpAt]
  refine RB_dec ?_ ?_ <;> intro h0
  · simp
  have ht : t.length ≤ 1048576 := by omega
  have w1 := eq_ReadCommand t ht
  have w2 := eq_sReadCommand t ht
  have hs := readM_same t
  have hl := readM_words t
  generalize readM t = r at *
  generalize sfin t (sread t 12 [] 0) = q at *
  obtain ⟨ws, n, c⟩ := r
  obtain ⟨ws', n', c'⟩ := q
  obtain ⟨s1, s2, s3⟩ := hs
  simp only at s1 s2 s3 hl
  subst s1; subst s2; subst s3
  simp only at w1 w2
  have w3 := eq_eqStringS' ws ws (by omega)
  try simp at w3
  have w4 := eq_markStringS ws 1 (by omega) (by omega) (by omega)
  try simp at w4
  have w5 := eq_heldStringS ws.length 1 false (by omega) (by omega) (by omega)
  try simp at w5
  have hk : List.take ws.length ((marksL ws.length 1).map D.str) = (marksL ws.length 1).map D.str := List.take_of_length_le (by simp)
  have hwp : IntKind.i64.wrap (1 + (ws.length : Int)) = 1 + ws.length := wrap_in (by omega) (by omega)
  have hneg : ¬ (1 + (ws.length : Int) < 0) := by omega
  simp [w1, w2, w3, w4, w5, tmpAt, hk, hwp, hneg]
end Go.Proofs.Ytoahalaodhcjhaa
