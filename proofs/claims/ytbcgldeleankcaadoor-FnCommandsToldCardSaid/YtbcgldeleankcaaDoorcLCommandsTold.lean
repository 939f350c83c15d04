/- The law FnCommandsTold, at the level of data: true for all data. -/
import Derived.Test.YtbcgldeleankcaaDoorcU9
import Derived.Test.YtbcgldeleankcaaDoorcB8
import Derived.Test.YtbcgldeleankcaaDoorcB4
set_option linter.unusedSectionVars false
set_option linter.all false
set_option linter.unusedVariables false
set_option linter.unusedSimpArgs false
set_option maxRecDepth 100000
namespace Go.Proofs.YtbcgldeleankcaaDoor
open Go.Lft

theorem readM_of {t : S} {ws : List S} {n : Nat} {k : Int} (h : sfin t (sread t 12 [] 0) = (ws, (n : Int), k)) : readM t = (ws, n, k) := by
  have h2 := readM_same t
  rw [h] at h2
  obtain ⟨q1, q2, q3⟩ := h2
  simp only at q1 q2 q3
  generalize readM t = r at *
  obtain ⟨r1, r2, r3⟩ := r
  simp only at q1 q2 q3
  subst q1 q3
  have : r2 = n := by omega
  rw [this]
theorem readM_words (t : S) : (readM t).1.length ≤ 12 := by
  have key : ∀ (f : Nat) (ws : List S) (a : Nat) (k : Int) (more : Bool), ws.length ≤ 12 → (readLoop t f ws a k more).1.length ≤ 12 := by
    intro f
    induction f with
    | zero => intro ws a k more h; exact h
    | succ f ih =>
      intro ws a k more h
      simp only [readLoop]
      split
      · split
        · exact h
        · exact ih _ _ _ _ (by simp; omega)
      · exact h
  unfold readM
  split
  · exact key 13 [] 0 0 true (by simp)
  · simp
set_option maxHeartbeats 4000000 in
theorem law_CommandsTold : ∀ xs, Sh.hasL [.slice 5 1 (.int .u8)] xs → lim E 3 xs = some (.bool true, []) := by
  intro xs h
  obtain ⟨x, s, rfl, g, h⟩ := has_cons h
  obtain rfl := has_nil h
  obtain ⟨code, rfl⟩ := has_code _ _ g
  by_cases hbig : 1048576 < code.length
  · refine lim_run (E := E) rfl Tryd.func3 rfl (by kernel_rfl) (by kernel_rfl) ?_
    simp [Tryd.f3, tmpAt, hbig]
  have hc : code.length ≤ 1048576 := by omega
  obtain ⟨t, ht, w1⟩ := ex_DrawReadCommand code hc
  obtain ⟨ws, ⟨hws, hwa⟩, w2⟩ := ex_DrawCommandText code hc
  have e1 := eq_ReadCommand t (by omega)
  have e2 := eq_sReadCommand t (by omega)
  have e3 := eq_CommandText ws (by omega) (fun w hw => (hwa w hw).imp_right fun h => .inl (Nat.lt_of_lt_of_le h itoaMax_le.1))
  have e4 := eq_sCommandText ws (by omega)
  have hsame := readM_same t
  have hl := readM_words t
  generalize readM t = R at *
  generalize sfin t (sread t 12 [] 0) = Q at *
  obtain ⟨aa, n, c⟩ := R
  obtain ⟨ab, n', c'⟩ := Q
  obtain ⟨s1, s2, s3⟩ := hsame
  simp only at s1 s2 s3 hl
  subst s1 s2 s3
  simp only at e1 e2
  have e5 := eq_sameTexts aa aa (by omega)
  try simp at w1
  try simp at w2
  try simp at e1
  try simp at e2
  try simp at e5
  cases hok : cmdOk ws
  · rw [hok] at e3 e4
    have e6 := eq_ReadCommand [] (by simp)
    generalize readM [] = R at *
    obtain ⟨bs, m, d⟩ := R
    try simp at e3
    try simp at e4
    try simp at e6
    refine lim_run (E := E) rfl Tryd.func3 rfl (by kernel_rfl) (by kernel_rfl) ?_
    simp [Tryd.f3, tmpAt, hbig, w1, w2, e1, e2, e3, e4, e5, e6]
  · have hok2 := hok
    simp only [cmdOk, Bool.and_eq_true, decide_eq_true_eq, List.all_eq_true] at hok2
    obtain ⟨⟨k1, k2⟩, k3, k4⟩ := hok2
    rw [hok, if_pos rfl] at e3 e4
    have hne : ws ≠ [] := by intro hc; subst hc; simp at k1
    have r1 := readM_of (read_back (ws := ws) (r := []) hne k2 k4 (fun w hw => by have := k3 w hw; omega))
    rw [List.append_nil] at r1
    have e6 := eq_ReadCommand (cmdL ws) (by omega)
    rw [r1] at e6
    have e7 := eq_sameTexts ws ws (by omega)
    generalize cmdL ws = T at *
    try simp at e3
    try simp at e4
    try simp at e6
    try simp at e7
    refine lim_run (E := E) rfl Tryd.func3 rfl (by kernel_rfl) (by kernel_rfl) ?_
    simp [Tryd.f3, tmpAt, hbig, w1, w2, e1, e2, e3, e4, e5, e6, e7]
end Go.Proofs.YtbcgldeleankcaaDoor
