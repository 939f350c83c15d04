/- The law FnCommands, at the level of data: true for all data. -/
import Derived.Test.YtoeadcefgpkdcaaDoorcU7
import Derived.Test.YtoeadcefgpkdcaaDoorcQ2
import Derived.Test.YtoeadcefgpkdcaaDoorcB8
import Derived.Test.YtoeadcefgpkdcaaDoorcB4
set_option linter.unusedSectionVars false
set_option linter.all false
set_option linter.unusedVariables false
set_option linter.unusedSimpArgs false
set_option maxRecDepth 100000
namespace Go.Proofs.YtoeadcefgpkdcaaDoor
open Go.Lft

theorem readM_of {t : S} {ws : List S} {n : Nat} {k : Int} (h : sfin t (sread t 12 [] 0) = (ws, (n : Int), k)) : readM t = (ws, n, k) := by
  have h2 := readM_same t
  rw [h] at h2
  obtain ⟨q1, q2, q3⟩ := h2
  simp only at q1 q2 q3
  generalize readM t = r at *
  obtain ⟨r1, r2, r3⟩ := r
  simp only at q1 q2 q3
  subst q1 q3
  have : r2 = n := by omega
  rw [this]
def moreT : S := [109, 111, 114, 101, 32, 111, 102, 32, 105, 116]
set_option maxHeartbeats 4000000 in
theorem law_Commands : ∀ xs, Sh.hasL [.slice 5 1 (.int .u8)] xs → lim E 4 xs = some (.bool true, []) := by
  intro xs h
  obtain ⟨x, s, rfl, g, h⟩ := has_cons h
  obtain rfl := has_nil h
  obtain ⟨code, rfl⟩ := has_code _ _ g
  by_cases hbig : 1048576 < code.length
  · refine lim_run (E := E) rfl Tryd.func4 rfl (by kernel_rfl) (by kernel_rfl) ?_
    simp [Tryd.f4, tmpAt, hbig]
  have hc : code.length ≤ 1048576 := by omega
  obtain ⟨ws, hws, w1⟩ := ex_DrawWords code hc
  obtain ⟨p, ⟨hp1, hp2⟩, w2⟩ := ex_DrawPlaces code hc
  have hp0 : 0 < p.length := by omega
  have hp00 := hp2 p[0] (List.getElem_mem hp0)
  have hok := wOk_cmd hws
  obtain ⟨n1, n2, n3, _⟩ := hws
  have wc := eq_CommandText ws (by omega) (fun w hw => .inr (n3 w hw))
  rw [hok, if_pos rfl] at wc
  have hTl : (cmdL ws).length ≤ 300 := by simp only [cmdOk, Bool.and_eq_true, decide_eq_true_eq] at hok; exact hok.2.2
  have hT2 : 2 ≤ (cmdL ws).length := by simp [cmdL]
  have hne : ws ≠ [] := by intro hc; subst hc; simp at n1
  have r1 := readM_of (read_back (ws := ws) (r := []) hne n2 hTl (fun w hw => by have := n3 w hw; omega))
  rw [List.append_nil] at r1
  have r2 := readM_of (read_back (ws := ws) (r := moreT) hne n2 hTl (fun w hw => by have := n3 w hw; omega))
  have hcut := fun (k : Nat) (hk : k < (cmdL ws).length) => readM_of (n := 0) (cut_more (ws := ws) hne n2 hTl (fun w hw => by have := n3 w hw; omega) hk)
  generalize cmdL ws = T at *
  have tk := tmod_in hp00.1 (show (0 : Int) < (T.length : Int) by omega)
  obtain ⟨k, hk⟩ : ∃ k : Nat, p[0].tmod (T.length : Int) = k := ⟨(p[0].tmod (T.length : Int)).toNat, by omega⟩
  have hkl : k < T.length := by omega
  have r3 := hcut k hkl
  have e1 := eq_ReadCommand T (by omega)
  rw [r1] at e1
  have e2 := eq_ReadCommand (T ++ moreT) (by simp [moreT]; omega)
  rw [r2] at e2
  have e3 := eq_ReadCommand (T.take k) (by simp; omega)
  rw [r3] at e3
  have ws1 := eq_sameTexts ws ws (by omega)
  unfold moreT at e2
  have hT0 : ¬ T.length = 0 := by omega
  have hTn : T ≠ [] := by intro hc; subst hc; simp at hT2
  have hkle : k ≤ T.length := by omega
  try simp at w1
  try simp at w2
  try simp at wc
  try simp at e1
  try simp at e2
  try simp at e3
  try simp at ws1
  refine lim_run (E := E) rfl Tryd.func4 rfl (by kernel_rfl) (by kernel_rfl) ?_
  simp [Tryd.f4, tmpAt, hbig, w1, w2, wc, e1, e2, e3, ws1, hp0, hk, hT0, hTn, hkle]
  omega
end Go.Proofs.YtoeadcefgpkdcaaDoor
