/- The law FnAnyWord, at the level of data: true for all data. -/
import Derived.Test.YtoeadcefgpkdcaaDoorcU5
import Derived.Test.YtoeadcefgpkdcaaDoorcB8
import Derived.Test.YtoeadcefgpkdcaaDoorcB4
set_option linter.unusedSectionVars false
set_option linter.all false
set_option linter.unusedVariables false
set_option linter.unusedSimpArgs false
set_option maxRecDepth 100000
namespace Go.Proofs.YtoeadcefgpkdcaaDoor
open Go.Lft

theorem read_one : readM [123, 51, 125, 13, 10, 97, 32, 98, 32, 34, 99, 34, 13, 10] = ([[97, 32, 98], [99]], 14, 0) := by decide
theorem read_two : (readM [97, 32, 32, 98, 13, 10]).2.2 = 2 := by decide
def anyW (b : S) : List S := [[120], b, [40, 97, 32, 98, 41], [113, 34, 114]]
theorem any_ok (b : S) (hb : b.length ≤ 11) : cmdOk (anyW b) = true := by
  have h1 : wordText [120] = [120] := by decide
  have h2 : wordText [40, 97, 32, 98, 41] = [40, 97, 32, 98, 41] := by decide
  have h3 : wordText [113, 34, 114] = [34, 113, 92, 34, 114, 34] := by decide
  have h4 := wordText_le b
  simp [cmdOk, anyW, cmdL, wordsText, h1, h2, h3]
  omega
theorem any_back (b : S) (hb : b.length ≤ 11) : readM (cmdL (anyW b)) = (anyW b, (cmdL (anyW b)).length, 0) := by
  have h := any_ok b hb
  simp only [cmdOk, Bool.and_eq_true, decide_eq_true_eq] at h
  have h1 := read_back (ws := anyW b) (r := []) (by simp [anyW]) h.1.2 h.2.2 (by intro w hw; simp only [anyW, List.mem_cons, List.not_mem_nil, or_false] at hw; rcases hw with rfl | rfl | rfl | rfl <;> (try simp) <;> omega)
  rw [List.append_nil] at h1
  have h2 := readM_same (cmdL (anyW b))
  rw [h1] at h2
  obtain ⟨q1, q2, q3⟩ := h2
  simp only at q1 q2 q3
  generalize readM (cmdL (anyW b)) = r at *
  obtain ⟨r1, r2, r3⟩ := r
  simp only at q1 q2 q3
  subst q1 q3
  have : r2 = (cmdL (anyW b)).length := by omega
  rw [this]
set_option maxHeartbeats 4000000 in
theorem law_AnyWord : ∀ xs, Sh.hasL [.slice 5 1 (.int .u8)] xs → lim E 3 xs = some (.bool true, []) := by
  intro xs h
  obtain ⟨x, s, rfl, g, h⟩ := has_cons h
  obtain rfl := has_nil h
  obtain ⟨code, rfl⟩ := has_code _ _ g
  by_cases hbig : 1048576 < code.length
  · refine lim_run (E := E) rfl Tryd.func3 rfl (by kernel_rfl) (by kernel_rfl) ?_
    simp [Tryd.f3, tmpAt, hbig]
  have hc : code.length ≤ 1048576 := by omega
  obtain ⟨p, ⟨hp1, hp2⟩, w1⟩ := ex_DrawPlaces code hc
  try simp at w1
  have hp0 : 0 < p.length := by omega
  have hp00 := hp2 p[0] (List.getElem_mem hp0)
  have t12 := tmod_in hp00.1 (show (0 : Int) < 12 by omega)
  refine lim_run (E := E) rfl Tryd.func3 rfl (by kernel_rfl) (by kernel_rfl) ?_
  simp [Tryd.f3, tmpAt, hbig, w1]
  refine loop_fr [3] [(21,0)] (fun m st => ∃ (i r : Nat) (b : S), i + m = 12 ∧ (r = 22 ∨ r = 40) ∧ b.length = i ∧ (i : Int) ≤ p[0].tmod 12 ∧ st.env 4 = .slc (r,0) [] 0 b.length ∧ st.rs (r,0) = some ⟨false, .lst true 5 1 (ofBytes b)⟩ ∧ st.env 5 = .int .i64 i) (12) _ ?_ ?_
  · exact ⟨0, 22, [], by simp [ofBytes]; omega⟩
  rintro m0 ⟨env, rs⟩ hU0 hV0 ⟨i, r, b, hi, hr, hb, hle, e4, q, e0_5⟩ ih0; simp at hU0 hV0 e0_5
  simp at e4 q
  have hu := wrap_up (show i < 4611686018427387904 by omega)
  simp [hU0, hV0, e0_5, hp0]
  refine RB_dec ?_ ?_ <;> intro h
  · have hi12 : i < 12 := by omega
    have hip : i < p.length := by omega
    have htm : ((i : Int)).tmod 12 = (i : Int) := by rw [Int.tmod_eq_emod_of_nonneg (by omega)]; omega
    have hq2 := hp2 p[i] (List.getElem_mem hip)
    have t256 := tmod_in hq2.1 (show (0 : Int) < 256 by omega)
    obtain ⟨n, hn⟩ : ∃ n : Nat, p[i].tmod 256 = n := ⟨(p[i].tmod 256).toNat, by omega⟩
    have hw8 : IntKind.u8.wrap (n : Int) = (n : Int) := by rw [IntKind.wrap_u8]; omega
    have hof : ofBytes (b ++ [UInt8.ofNat n]) = ofBytes b ++ [D.int IntKind.u8 n] := by
      have : (UInt8.ofNat n).toNat = n := by rw [UInt8.toNat_ofNat']; omega
      simp [ofBytes]; omega
    have hcap : b.length ≤ 140737488351231 := by omega
    rcases hr with rfl | rfl
    all_goals
      simp [hU0, hV0, e0_5, hp0, h, e4, q, htm, hip, hn, hw8, hcap]
      refine ih0 (m0 - 1) _ (by omega) ?_ ?_ ⟨i + 1, 40, b ++ [UInt8.ofNat n], by omega, by simp, by simp [hb], by omega, ?_⟩
      · simp [hU0, hV0, e0_5]
      · simp [hU0, hV0, e0_5]
      rw [hof]
      simp [hU0, hV0, e0_5, hu]
  · have hb11 : b.length ≤ 11 := by omega
    have hT := any_back b hb11
    have wc := eq_CommandText (anyW b) (by simp [anyW]) (by intro w hw; right; simp only [anyW, List.mem_cons, List.not_mem_nil, or_false] at hw; rcases hw with rfl | rfl | rfl | rfl <;> (try simp) <;> omega)
    have hok := any_ok b hb11
    rw [hok, if_pos rfl] at wc
    have hTl : (cmdL (anyW b)).length ≤ 300 := by simp only [cmdOk, Bool.and_eq_true, decide_eq_true_eq] at hok; exact hok.2.2
    generalize cmdL (anyW b) = T at *
    have wr := eq_ReadCommand T (by omega)
    rw [hT] at wr
    have wr1 := eq_ReadCommand [123, 51, 125, 13, 10, 97, 32, 98, 32, 34, 99, 34, 13, 10] (by simp)
    rw [read_one] at wr1
    have wr2 := eq_ReadCommand [97, 32, 32, 98, 13, 10] (by simp)
    have rt := read_two
    generalize readM [97, 32, 32, 98, 13, 10] = R at *
    obtain ⟨R1, R2, R3⟩ := R
    simp only at rt
    subst rt
    have ws1 := eq_sameTexts (anyW b) (anyW b) (by simp [anyW])
    have ws2 := eq_sameTexts [[97, 32, 98], [99]] [[97, 32, 98], [99]] (by simp)
    simp [anyW] at wc wr ws1
    try simp at wr1
    try simp at wr2
    try simp at ws2
    rcases hr with rfl | rfl
    all_goals
      simp [hU0, hV0, e0_5, hp0, h, e4, q, wc, wr, wr1, wr2, ws1, ws2, tmpAt]
end Go.Proofs.YtoeadcefgpkdcaaDoor
