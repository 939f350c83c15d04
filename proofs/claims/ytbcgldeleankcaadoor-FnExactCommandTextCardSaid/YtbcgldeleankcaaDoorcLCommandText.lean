/- The law FnExactCommandText, at the level of data: true for all data. -/
import Derived.Test.YtbcgldeleankcaaDoorcU8
import Derived.Test.YtbcgldeleankcaaDoorcHlp
set_option linter.unusedSectionVars false
set_option linter.all false
set_option linter.unusedVariables false
set_option linter.unusedSimpArgs false
set_option maxRecDepth 100000
namespace Go.Proofs.YtbcgldeleankcaaDoor
open Go.Lft

theorem itoaAll : itoaMax = 1000 := rfl
set_option maxHeartbeats 4000000 in
theorem law_CommandText : ∀ xs, Sh.hasL [.slice 9 1 .str] xs → lim E 4 xs = some (.bool true, []) := by
  intro xs h
  obtain ⟨x, s, rfl, g, h⟩ := has_cons h
  obtain rfl := has_nil h
  obtain ⟨ws, rfl, hw, hr⟩ := has_list has_str _ g
  have w0 := eq_szStringS ws 1048576 hw (by omega) (by omega)
  generalize hn : (ws.length + tot (fun (y : S) => y.length) ws) = n at w0
  try simp at w0
  refine lim_run (E := E) rfl Tryd.func4 rfl (by kernel_rfl) (by kernel_rfl) ?_
  simp [Tryd.f4, tmpAt, w0]
  refine RB_dec ?_ ?_ <;> intro h0
  · simp
  obtain ⟨c0, d0⟩ := cut_pos h0
  have hz : ws.length + tot (fun (y : S) => y.length) ws ≤ 1048576 := by omega
  have w1 := eq_toStringS ws hz
  try simp at w1
  have w2 := eq_CommandText ws (by omega) (fun w hw => by
    have := itoaAll
    omega)
  have w3 := eq_sCommandText ws (by omega)
  have w4 := eq_eqStringS ws ws hz
  try simp at w4
  generalize (if cmdOk ws = true then cmdL ws else []) = T at *
  generalize cmdOk ws = B at *
  try simp at w2
  try simp at w3
  simp [w1, w2, w3, w4, tmpAt]
end Go.Proofs.YtbcgldeleankcaaDoor
