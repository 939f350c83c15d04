/- Commands: the drawn words of a command. -/
import Derived.Test.YtbcgldeleankcaaDoorcU6
set_option linter.unusedSectionVars false
set_option linter.all false
set_option linter.unusedVariables false
set_option linter.unusedSimpArgs false
set_option maxRecDepth 100000
namespace Go.Proofs.YtbcgldeleankcaaDoor
open Go.Lft

set_option maxHeartbeats 4000000 in
theorem ex_l15Words (c : Cur) : ∃ r : List S × Cur, wOk r.1 ∧ lim E 50 [.pto (encCur c)] = some (.lst true 9 1 (r.1.map .str), [.pto (encCur r.2)]) := by
  refine ex_split ?_
  have hb := below_in c 10
  generalize hQ : below c 10 = Q at *
  obtain ⟨x, c0⟩ := Q
  simp at hb
  have hx : x = 0 ∨ x = 1 ∨ x = 2 ∨ x = 3 ∨ x = 4 ∨ x = 5 ∨ x = 6 ∨ x = 7 ∨ x = 8 ∨ x = 9 := by omega
  rcases hx with rfl | rfl | rfl | rfl | rfl | rfl | rfl | rfl | rfl | rfl
  · have h0 := pick_le c0 [[105, 110, 98, 111, 120], [119, 111, 114, 107], [110, 111, 110, 101]] 5 (by simp) (by decide)
    generalize hP0 : pick c0 [[105, 110, 98, 111, 120], [119, 111, 114, 107], [110, 111, 110, 101]] = P at *
    obtain ⟨p0, c1⟩ := P
    simp only at h0
    refine lim_ex (E := E) rfl Tryd.func50 rfl (by kernel_rfl) (by kernel_rfl) ?_
    simp [Tryd.f50, tmpAt, hQ, hP0]
    exact ⟨([[115, 101, 108, 101, 99, 116], p0], c1), wOk_of (by simp) (by intro w hw; simp at hw; rcases hw with rfl | rfl <;> (try simp) <;> omega) (by simp [tot]; omega), by simp⟩
  · have h0 := pick_le c0 [[49], [50], [120]] 1 (by simp) (by decide)
    generalize hP0 : pick c0 [[49], [50], [120]] = P at *
    obtain ⟨p0, c1⟩ := P
    simp only at h0
    have h1 := pick_le c1 [[48], [51], [57]] 1 (by simp) (by decide)
    generalize hP1 : pick c1 [[48], [51], [57]] = P at *
    obtain ⟨p1, c2⟩ := P
    simp only at h1
    refine lim_ex (E := E) rfl Tryd.func50 rfl (by kernel_rfl) (by kernel_rfl) ?_
    simp [Tryd.f50, tmpAt, hQ, hP0, hP1]
    exact ⟨([[115, 101, 108, 101, 99, 116], [105, 110, 98, 111, 120], p0, p1], c2), wOk_of (by simp) (by intro w hw; simp at hw; rcases hw with rfl | rfl | rfl | rfl <;> (try simp) <;> omega) (by simp [tot]; omega), by simp⟩
  · have h0 := pick_le c0 [[105, 110, 98, 111, 120], [105, 110, 98, 111, 120], [119, 111, 114, 107]] 5 (by simp) (by decide)
    generalize hP0 : pick c0 [[105, 110, 98, 111, 120], [105, 110, 98, 111, 120], [119, 111, 114, 107]] = P at *
    obtain ⟨p0, c1⟩ := P
    simp only at h0
    have h1 := pick_le c1 [[40, 41], [40, 115, 101, 101, 110, 41], [40, 100, 101, 108, 101, 116, 101, 100, 41], [40, 115, 101, 101, 110, 32, 102, 108, 97, 103, 103, 101, 100, 41]] 14 (by simp) (by decide)
    generalize hP1 : pick c1 [[40, 41], [40, 115, 101, 101, 110, 41], [40, 100, 101, 108, 101, 116, 101, 100, 41], [40, 115, 101, 101, 110, 32, 102, 108, 97, 103, 103, 101, 100, 41]] = P at *
    obtain ⟨p1, c2⟩ := P
    simp only at h1
    have h2 := mailDraw_len c2
    generalize hP2 : mailDraw c2 = P at *
    obtain ⟨p2, c3⟩ := P
    simp only at h2
    refine lim_ex (E := E) rfl Tryd.func50 rfl (by kernel_rfl) (by kernel_rfl) ?_
    simp [Tryd.f50, tmpAt, hQ, hP0, hP1, hP2]
    exact ⟨([[97, 100, 100], p0, p1, p2], c3), wOk_of (by simp) (by intro w hw; simp at hw; rcases hw with rfl | rfl | rfl | rfl <;> (try simp) <;> omega) (by simp [tot]; omega), by simp⟩
  · have h0 := pick_le c0 [[105, 110, 98, 111, 120], [105, 110, 98, 111, 120], [119, 111, 114, 107]] 5 (by simp) (by decide)
    generalize hP0 : pick c0 [[105, 110, 98, 111, 120], [105, 110, 98, 111, 120], [119, 111, 114, 107]] = P at *
    obtain ⟨p0, c1⟩ := P
    simp only at h0
    have h1 := pick_le c1 [[40, 41], [40, 115, 101, 101, 110, 41], [40, 100, 101, 108, 101, 116, 101, 100, 41], [40, 115, 101, 101, 110, 32, 102, 108, 97, 103, 103, 101, 100, 41]] 14 (by simp) (by decide)
    generalize hP1 : pick c1 [[40, 41], [40, 115, 101, 101, 110, 41], [40, 100, 101, 108, 101, 116, 101, 100, 41], [40, 115, 101, 101, 110, 32, 102, 108, 97, 103, 103, 101, 100, 41]] = P at *
    obtain ⟨p1, c2⟩ := P
    simp only at h1
    have h2 := mailDraw_len c2
    generalize hP2 : mailDraw c2 = P at *
    obtain ⟨p2, c3⟩ := P
    simp only at h2
    refine lim_ex (E := E) rfl Tryd.func50 rfl (by kernel_rfl) (by kernel_rfl) ?_
    simp [Tryd.f50, tmpAt, hQ, hP0, hP1, hP2]
    exact ⟨([[97, 100, 100], p0, p1, p2], c3), wOk_of (by simp) (by intro w hw; simp at hw; rcases hw with rfl | rfl | rfl | rfl <;> (try simp) <;> omega) (by simp [tot]; omega), by simp⟩
  · have h0 := pick_le c0 [[49], [49, 58, 51], [50, 58, 42], [49, 44, 52], [51]] 3 (by simp) (by decide)
    generalize hP0 : pick c0 [[49], [49, 58, 51], [50, 58, 42], [49, 44, 52], [51]] = P at *
    obtain ⟨p0, c1⟩ := P
    simp only at h0
    have h1 := pick_le c1 [[43], [43], [45], [61]] 1 (by simp) (by decide)
    generalize hP1 : pick c1 [[43], [43], [45], [61]] = P at *
    obtain ⟨p1, c2⟩ := P
    simp only at h1
    have h2 := pick_le c2 [[40, 100, 101, 108, 101, 116, 101, 100, 41], [40, 115, 101, 101, 110, 41], [40, 102, 108, 97, 103, 103, 101, 100, 32, 100, 101, 108, 101, 116, 101, 100, 41]] 17 (by simp) (by decide)
    generalize hP2 : pick c2 [[40, 100, 101, 108, 101, 116, 101, 100, 41], [40, 115, 101, 101, 110, 41], [40, 102, 108, 97, 103, 103, 101, 100, 32, 100, 101, 108, 101, 116, 101, 100, 41]] = P at *
    obtain ⟨p2, c3⟩ := P
    simp only at h2
    refine lim_ex (E := E) rfl Tryd.func50 rfl (by kernel_rfl) (by kernel_rfl) ?_
    simp [Tryd.f50, tmpAt, hQ, hP0, hP1, hP2]
    exact ⟨([[115, 116, 111, 114, 101], p0, p1, p2], c3), wOk_of (by simp) (by intro w hw; simp at hw; rcases hw with rfl | rfl | rfl | rfl <;> (try simp) <;> omega) (by simp [tot]; omega), by simp⟩
  · have h0 := pick_le c0 [[49], [49, 58, 51], [50, 58, 42], [49, 44, 52], [51]] 3 (by simp) (by decide)
    generalize hP0 : pick c0 [[49], [49, 58, 51], [50, 58, 42], [49, 44, 52], [51]] = P at *
    obtain ⟨p0, c1⟩ := P
    simp only at h0
    have h1 := pick_le c1 [[43], [43], [45], [61]] 1 (by simp) (by decide)
    generalize hP1 : pick c1 [[43], [43], [45], [61]] = P at *
    obtain ⟨p1, c2⟩ := P
    simp only at h1
    have h2 := pick_le c2 [[40, 100, 101, 108, 101, 116, 101, 100, 41], [40, 115, 101, 101, 110, 41], [40, 102, 108, 97, 103, 103, 101, 100, 32, 100, 101, 108, 101, 116, 101, 100, 41]] 17 (by simp) (by decide)
    generalize hP2 : pick c2 [[40, 100, 101, 108, 101, 116, 101, 100, 41], [40, 115, 101, 101, 110, 41], [40, 102, 108, 97, 103, 103, 101, 100, 32, 100, 101, 108, 101, 116, 101, 100, 41]] = P at *
    obtain ⟨p2, c3⟩ := P
    simp only at h2
    refine lim_ex (E := E) rfl Tryd.func50 rfl (by kernel_rfl) (by kernel_rfl) ?_
    simp [Tryd.f50, tmpAt, hQ, hP0, hP1, hP2]
    exact ⟨([[115, 116, 111, 114, 101], p0, p1, p2], c3), wOk_of (by simp) (by intro w hw; simp at hw; rcases hw with rfl | rfl | rfl | rfl <;> (try simp) <;> omega) (by simp [tot]; omega), by simp⟩
  · refine lim_ex (E := E) rfl Tryd.func50 rfl (by kernel_rfl) (by kernel_rfl) ?_
    simp [Tryd.f50, tmpAt, hQ]
    exact ⟨([[101, 120, 112, 117, 110, 103, 101]], c0), wOk_of (by simp) (by intro w hw; simp at hw; subst hw; simp) (by simp [tot]), by simp⟩
  · have w := eq_l12Words c0
    have hf := searchDraw_few c0
    generalize searchDraw c0 = P at *
    obtain ⟨xs, c1⟩ := P
    simp only [wFew] at hf w
    try simp at w
    have hcap : xs.length ≤ 140737488351231 := by omega
    have hcap1 : (xs.length + 1) * 16 ≤ 140737488351232 := by omega
    have hcap2 : (1 + xs.length) * 16 ≤ 140737488351232 := by omega
    refine lim_ex (E := E) rfl Tryd.func50 rfl (by kernel_rfl) (by kernel_rfl) ?_
    simp [Tryd.f50, tmpAt, hQ, w, hcap, hcap1, hcap2]
    exact ⟨([115, 101, 97, 114, 99, 104] :: xs, c1), wOk_of (by simp; omega) (by intro w hw; rcases List.mem_cons.1 hw with rfl | hw; simp; exact hf.2.1 w hw) (by have := hf.2.2; simp only [tot, List.length_cons, List.length_nil]; omega), by simp⟩
  · have h0 := pick_le c0 [[99, 111, 112, 121], [109, 111, 118, 101]] 4 (by simp) (by decide)
    generalize hP0 : pick c0 [[99, 111, 112, 121], [109, 111, 118, 101]] = P at *
    obtain ⟨p0, c1⟩ := P
    simp only at h0
    have h1 := pick_le c1 [[49], [49, 58, 50], [51, 58, 42]] 3 (by simp) (by decide)
    generalize hP1 : pick c1 [[49], [49, 58, 50], [51, 58, 42]] = P at *
    obtain ⟨p1, c2⟩ := P
    simp only at h1
    have h2 := pick_le c2 [[119, 111, 114, 107], [105, 110, 98, 111, 120], [111, 108, 100]] 5 (by simp) (by decide)
    generalize hP2 : pick c2 [[119, 111, 114, 107], [105, 110, 98, 111, 120], [111, 108, 100]] = P at *
    obtain ⟨p2, c3⟩ := P
    simp only at h2
    refine lim_ex (E := E) rfl Tryd.func50 rfl (by kernel_rfl) (by kernel_rfl) ?_
    simp [Tryd.f50, tmpAt, hQ, hP0, hP1, hP2]
    exact ⟨([p0, p1, p2], c3), wOk_of (by simp) (by intro w hw; simp at hw; rcases hw with rfl | rfl | rfl <;> (try simp) <;> omega) (by simp [tot]; omega), by simp⟩
  · have w := eq_l15More c0
    have hf := moreDraw_ok c0
    generalize moreDraw c0 = P at *
    obtain ⟨xs, c1⟩ := P
    simp only at hf
    try simp at w
    refine lim_ex (E := E) rfl Tryd.func50 rfl (by kernel_rfl) (by kernel_rfl) ?_
    simp [Tryd.f50, tmpAt, hQ, w]
    exact ⟨(xs, c1), hf, by simp⟩
noncomputable def cmdDraw (c : Cur) : List S × Cur := (ex_l15Words c).choose
theorem cmdDraw_ok (c : Cur) : wOk (cmdDraw c).1 := (ex_l15Words c).choose_spec.1
theorem eq_l15Words (c : Cur) : lim E 50 [.pto (encCur c)] = some (.lst true 9 1 ((cmdDraw c).1.map .str), [.pto (encCur (cmdDraw c).2)]) := (ex_l15Words c).choose_spec.2
end Go.Proofs.YtbcgldeleankcaaDoor
