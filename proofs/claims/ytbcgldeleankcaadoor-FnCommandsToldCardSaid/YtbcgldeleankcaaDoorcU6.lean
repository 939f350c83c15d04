/- Commands: the drawn words: few and short. -/
import Derived.Test.YtbcgldeleankcaaDoorcU5
set_option linter.unusedSectionVars false
set_option linter.all false
set_option linter.unusedVariables false
set_option linter.unusedSimpArgs false
set_option maxRecDepth 100000
namespace Go.Proofs.YtbcgldeleankcaaDoor
open Go.Lft

@[simp] theorem strMax_def : strMax = 4611686018427387904 := rfl
theorem ex_l07Mail (c : Cur) : ∃ r : S × Cur, (r.1.length ≤ 86) ∧ lim E 77 [.pto (encCur c)] = some (.str r.1, [.pto (encCur r.2)]) := by
  refine ex_split ?_
  refine lim_ex (E := E) rfl Tryd.func77 rfl (by kernel_rfl) (by kernel_rfl) ?_
  simp [Tryd.f77, tmpAt]
  generalize hp : pick c _ = P
  have hb := pick_tot hp
  clear hp
  obtain ⟨s1, c1⟩ := P
  simp [tot] at hb
  simp
  repeat (refine And.intro (by first | omega | (simp; omega)) ?_)
  refine RB_split ?_ ?_ <;> intro h1 <;> simp
  · generalize (once c1 2).2 = c2
    generalize hp : pick c2 _ = P
    have hb2 := pick_tot hp
    clear hp
    obtain ⟨s2, c3⟩ := P
    simp [tot] at hb2
    simp
    repeat (refine And.intro (by first | omega | (simp; omega)) ?_)
    refine RB_split ?_ ?_ <;> intro h2 <;> simp
    · exact ⟨(_, _), by simp; omega, rfl⟩
    · generalize (once c3 6).2 = c4
      generalize hp : pick c4 _ = P
      have hb3 := pick_tot hp
      clear hp
      obtain ⟨s3, c5⟩ := P
      simp [tot] at hb3
      simp
      repeat (refine And.intro (by first | omega | (simp; omega)) ?_)
      exact ⟨(_, _), by simp; omega, rfl⟩
  · generalize (once c1 2).2 = c3
    refine RB_split ?_ ?_ <;> intro h2 <;> simp
    · exact ⟨(_, _), by simp; omega, rfl⟩
    · generalize (once c3 6).2 = c4
      generalize hp : pick c4 _ = P
      have hb3 := pick_tot hp
      clear hp
      obtain ⟨s3, c5⟩ := P
      simp [tot] at hb3
      simp
      repeat (refine And.intro (by first | omega | (simp; omega)) ?_)
      exact ⟨(_, _), by simp; omega, rfl⟩
noncomputable def mailDraw (c : Cur) : S × Cur := (ex_l07Mail c).choose
theorem mailDraw_len (c : Cur) : (mailDraw c).1.length ≤ 86 := (ex_l07Mail c).choose_spec.1
@[simp] theorem eq_l07Mail (c : Cur) : lim E 77 [.pto (encCur c)] = some (.str (mailDraw c).1, [.pto (encCur (mailDraw c).2)]) := (ex_l07Mail c).choose_spec.2

theorem pick_le (c : Cur) (l : List S) (n : Nat) (h : l ≠ []) (hl : l.all (fun x => decide (x.length ≤ n)) = true) : (pick c l).1.length ≤ n := by
  have := List.all_eq_true.1 hl _ (pick_mem c l h)
  simpa using this
def wFew (ws : List S) (n k : Nat) : Prop := ws.length ≤ n ∧ (∀ w ∈ ws, w.length < 100) ∧ tot List.length ws ≤ k
def wOk (ws : List S) : Prop := 1 ≤ ws.length ∧ ws.length ≤ 12 ∧ (∀ w ∈ ws, w.length < 100) ∧ 2 * tot List.length ws + 8 * ws.length ≤ 290
theorem wordsText_le : ∀ (ws : List S), (wordsText ws).length ≤ 2 * tot List.length ws + 8 * ws.length
  | [] => by simp [wordsText]
  | [w] => by have := wordText_le w; simp [wordsText, tot]; omega
  | w :: v :: vs => by
    have h1 := wordsText_le (v :: vs)
    have := wordText_le w
    simp only [wordsText, List.length_append, List.length_cons, tot] at h1 ⊢
    omega
theorem wOk_cmd {ws : List S} (h : wOk ws) : cmdOk ws = true := by
  obtain ⟨h1, h2, h3, h4⟩ := h
  have h5 := wordsText_le ws
  simp only [cmdOk, Bool.and_eq_true, decide_eq_true_eq, List.all_eq_true]
  refine ⟨⟨h1, h2⟩, fun w hw => ?_, ?_⟩
  · have := h3 w hw; omega
  · simp [cmdL]; omega
theorem tot_app (xs ys : List S) : tot List.length (xs ++ ys) = tot List.length xs + tot List.length ys := by
  induction xs with
  | nil => simp [tot]
  | cons x xs ih => simp [tot, ih]; omega
theorem wFew_app {xs ys : List S} {i : Nat} (h : wFew xs (2 * i) (16 * i)) (h1 : ys.length ≤ 2) (h2 : ∀ w ∈ ys, w.length < 100) (h3 : tot List.length ys ≤ 16) : wFew (xs ++ ys) (2 * (i + 1)) (16 * (i + 1)) := by
  obtain ⟨a, b, c⟩ := h
  refine ⟨by simp; omega, fun w hw => ?_, by rw [tot_app]; omega⟩
  rcases List.mem_append.1 hw with hw | hw
  · exact b w hw
  · exact h2 w hw
set_option maxHeartbeats 2000000 in
theorem ex_l12Words (c : Cur) : ∃ r : List S × Cur, wFew r.1 6 48 ∧ lim E 78 [.pto (encCur c)] = some (.lst true 9 1 (r.1.map .str), [.pto (encCur r.2)]) := by
  refine ex_split ?_
  refine lim_ex (E := E) rfl Tryd.func78 rfl (by kernel_rfl) (by kernel_rfl) ?_
  simp [Tryd.f78, tmpAt]
  refine loop_fr [0] [] (fun m st => ∃ (i r : Nat) (xs : List S) (c' : Cur), i + m = 3 ∧ (r = 5 ∨ r = 28 ∨ r = 36 ∨ r = 44 ∨ r = 52 ∨ r = 60 ∨ r = 20) ∧ wFew xs (2 * i) (16 * i) ∧ st.env 3 = .slc (r,0) [] 0 xs.length ∧ st.rs (r,0) = some ⟨false, .lst true 9 1 (xs.map .str)⟩ ∧ st.env 4 = .int .i64 i ∧ st.rs (0,99) = some ⟨true, encCur c'⟩) (3) _ ?_ ?_
  · exact ⟨0, 5, [], c, by simp [wFew, tot]⟩
  rintro m0 ⟨env, rs⟩ hU0 hV0 ⟨i, r, xs, c', hi, hr, hw, e3, q, e0_4, r0_0_99⟩ ih0; simp at hU0 e0_4 r0_0_99; clear hV0
  simp at e3 q
  have hu := wrap_up (show i < 4611686018427387904 by omega)
  have hxl : xs.length ≤ 6 := by have := hw.1; omega
  have hb := below_in c' 3
  generalize hQ : below c' 3 = Q at *
  obtain ⟨x, c2⟩ := Q
  simp at hb
  have hwx : IntKind.i64.wrap (1 + x) = 1 + x := wrap_in (by omega) (by omega)
  simp [hU0, e0_4, r0_0_99, hQ, hwx]
  refine RB_dec ?_ ?_ <;> intro h
  · have hi2 : i ≤ 2 := by omega
    have hb2 := below_in c2 6
    generalize hQ2 : below c2 6 = Q at *
    obtain ⟨y, c3⟩ := Q
    simp at hb2
    have hcap : xs.length ≤ 140737488351230 := by omega
    have hcap1 : (xs.length + 1) * 16 ≤ 140737488351232 := by omega
    have hcap2 : (xs.length + 1 + 1) * 16 ≤ 140737488351232 := by omega
    have hcap3 : (xs.length + 2) * 16 ≤ 140737488351232 := by omega
    have hy : y = 0 ∨ y = 1 ∨ y = 2 ∨ y = 3 ∨ y = 4 ∨ y = 5 := by omega
    rcases hy with rfl | rfl | rfl | rfl | rfl | rfl
    · have hp := pick_le c3 [[97, 108, 108], [115, 101, 101, 110], [117, 110, 115, 101, 101, 110], [100, 101, 108, 101, 116, 101, 100], [117, 110, 100, 101, 108, 101, 116, 101, 100], [102, 108, 97, 103, 103, 101, 100], [117, 110, 100, 114, 97, 102, 116]] 9 (by simp) (by decide)
      generalize hP : pick c3 [[97, 108, 108], [115, 101, 101, 110], [117, 110, 115, 101, 101, 110], [100, 101, 108, 101, 116, 101, 100], [117, 110, 100, 101, 108, 101, 116, 101, 100], [102, 108, 97, 103, 103, 101, 100], [117, 110, 100, 114, 97, 102, 116]] = P at *
      obtain ⟨pw, c4⟩ := P
      simp only at hp
      have hw2 := wFew_app (ys := [pw]) hw (by simp) (by intro w hw'; simp at hw'; subst hw'; omega) (by simp [tot]; omega)
      rcases hr with rfl | rfl | rfl | rfl | rfl | rfl | rfl
      all_goals
        simp [hU0, e0_4, r0_0_99, hQ2, e3, q, hP, hcap, hcap1, hcap2, hcap3]
        refine ih0 (m0 - 1) _ (by omega) ?_ ?_ ⟨i + 1, 28, xs ++ [pw], c4, by omega, by simp, hw2, ?_⟩
        · simp [hU0, e0_4, r0_0_99]
        · simp [hU0, e0_4, r0_0_99]
        simp [hU0, e0_4, r0_0_99, hu]
    · have hp := pick_le c3 [[104, 101, 108, 108, 111], [72, 69, 76, 76, 79], [111], [110, 111, 110, 101]] 5 (by simp) (by decide)
      generalize hP : pick c3 [[104, 101, 108, 108, 111], [72, 69, 76, 76, 79], [111], [110, 111, 110, 101]] = P at *
      obtain ⟨pw, c4⟩ := P
      simp only at hp
      have hw2 := wFew_app (ys := [[115, 117, 98, 106, 101, 99, 116], pw]) hw (by simp) (by intro w hw'; simp at hw'; rcases hw' with rfl | rfl <;> (try simp) <;> omega) (by simp [tot]; omega)
      rcases hr with rfl | rfl | rfl | rfl | rfl | rfl | rfl
      all_goals
        simp [hU0, e0_4, r0_0_99, hQ2, e3, q, hP, hcap, hcap1, hcap2, hcap3]
        refine ih0 (m0 - 1) _ (by omega) ?_ ?_ ⟨i + 1, 36, xs ++ [[115, 117, 98, 106, 101, 99, 116], pw], c4, by omega, by simp, hw2, ?_⟩
        · simp [hU0, e0_4, r0_0_99]
        · simp [hU0, e0_4, r0_0_99]
        simp [hU0, e0_4, r0_0_99, hu]
    · have hp := pick_le c3 [[98, 111, 100, 121], [65, 110, 110], [120]] 4 (by simp) (by decide)
      generalize hP : pick c3 [[98, 111, 100, 121], [65, 110, 110], [120]] = P at *
      obtain ⟨pw, c4⟩ := P
      simp only at hp
      have hw2 := wFew_app (ys := [[116, 101, 120, 116], pw]) hw (by simp) (by intro w hw'; simp at hw'; rcases hw' with rfl | rfl <;> (try simp) <;> omega) (by simp [tot]; omega)
      rcases hr with rfl | rfl | rfl | rfl | rfl | rfl | rfl
      all_goals
        simp [hU0, e0_4, r0_0_99, hQ2, e3, q, hP, hcap, hcap1, hcap2, hcap3]
        refine ih0 (m0 - 1) _ (by omega) ?_ ?_ ⟨i + 1, 44, xs ++ [[116, 101, 120, 116], pw], c4, by omega, by simp, hw2, ?_⟩
        · simp [hU0, e0_4, r0_0_99]
        · simp [hU0, e0_4, r0_0_99]
        simp [hU0, e0_4, r0_0_99, hu]
    · have hp := pick_le c3 [[49, 58, 51], [50], [42], [52, 58, 42]] 3 (by simp) (by decide)
      generalize hP : pick c3 [[49, 58, 51], [50], [42], [52, 58, 42]] = P at *
      obtain ⟨pw, c4⟩ := P
      simp only at hp
      have hw2 := wFew_app (ys := [[117, 105, 100], pw]) hw (by simp) (by intro w hw'; simp at hw'; rcases hw' with rfl | rfl <;> (try simp) <;> omega) (by simp [tot]; omega)
      rcases hr with rfl | rfl | rfl | rfl | rfl | rfl | rfl
      all_goals
        simp [hU0, e0_4, r0_0_99, hQ2, e3, q, hP, hcap, hcap1, hcap2, hcap3]
        refine ih0 (m0 - 1) _ (by omega) ?_ ?_ ⟨i + 1, 52, xs ++ [[117, 105, 100], pw], c4, by omega, by simp, hw2, ?_⟩
        · simp [hU0, e0_4, r0_0_99]
        · simp [hU0, e0_4, r0_0_99]
        simp [hU0, e0_4, r0_0_99, hu]
    · have hp := pick_le c3 [[48], [52], [57]] 1 (by simp) (by decide)
      generalize hP : pick c3 [[48], [52], [57]] = P at *
      obtain ⟨pw, c4⟩ := P
      simp only at hp
      have hw2 := wFew_app (ys := [[109, 111, 100, 115, 101, 113], pw]) hw (by simp) (by intro w hw'; simp at hw'; rcases hw' with rfl | rfl <;> (try simp) <;> omega) (by simp [tot]; omega)
      rcases hr with rfl | rfl | rfl | rfl | rfl | rfl | rfl
      all_goals
        simp [hU0, e0_4, r0_0_99, hQ2, e3, q, hP, hcap, hcap1, hcap2, hcap3]
        refine ih0 (m0 - 1) _ (by omega) ?_ ?_ ⟨i + 1, 60, xs ++ [[109, 111, 100, 115, 101, 113], pw], c4, by omega, by simp, hw2, ?_⟩
        · simp [hU0, e0_4, r0_0_99]
        · simp [hU0, e0_4, r0_0_99]
        simp [hU0, e0_4, r0_0_99, hu]
    · have hp := pick_le c3 [[115, 101, 101, 110], [117, 110, 102, 108, 97, 103, 103, 101, 100]] 9 (by simp) (by decide)
      generalize hP : pick c3 [[115, 101, 101, 110], [117, 110, 102, 108, 97, 103, 103, 101, 100]] = P at *
      obtain ⟨pw, c4⟩ := P
      simp only at hp
      have hw2 := wFew_app (ys := [pw]) hw (by simp) (by intro w hw'; simp at hw'; subst hw'; omega) (by simp [tot]; omega)
      rcases hr with rfl | rfl | rfl | rfl | rfl | rfl | rfl
      all_goals
        simp [hU0, e0_4, r0_0_99, hQ2, e3, q, hP, hcap, hcap1, hcap2, hcap3]
        refine ih0 (m0 - 1) _ (by omega) ?_ ?_ ⟨i + 1, 20, xs ++ [pw], c4, by omega, by simp, hw2, ?_⟩
        · simp [hU0, e0_4, r0_0_99]
        · simp [hU0, e0_4, r0_0_99]
        simp [hU0, e0_4, r0_0_99, hu]
  · rcases hr with rfl | rfl | rfl | rfl | rfl | rfl | rfl
    all_goals
      simp [hU0, e0_4, r0_0_99, e3, q]
      exact ⟨(xs, c2), ⟨Nat.le_trans hw.1 (by omega), hw.2.1, Nat.le_trans hw.2.2 (by omega)⟩, rfl⟩
noncomputable def searchDraw (c : Cur) : List S × Cur := (ex_l12Words c).choose
theorem searchDraw_few (c : Cur) : wFew (searchDraw c).1 6 48 := (ex_l12Words c).choose_spec.1
theorem eq_l12Words (c : Cur) : lim E 78 [.pto (encCur c)] = some (.lst true 9 1 ((searchDraw c).1.map .str), [.pto (encCur (searchDraw c).2)]) := (ex_l12Words c).choose_spec.2
theorem wOk_of {ws : List S} (h1 : 1 ≤ ws.length ∧ ws.length ≤ 12) (h2 : ∀ w ∈ ws, w.length < 100) (h3 : 2 * tot List.length ws + 8 * ws.length ≤ 290) : wOk ws := ⟨h1.1, h1.2, h2, h3⟩
set_option maxHeartbeats 2000000 in
theorem ex_l15More (c : Cur) : ∃ r : List S × Cur, wOk r.1 ∧ lim E 79 [.pto (encCur c)] = some (.lst true 9 1 (r.1.map .str), [.pto (encCur r.2)]) := by
  refine ex_split ?_
  have hb := below_in c 7
  generalize hQ : below c 7 = Q at *
  obtain ⟨x, c2⟩ := Q
  simp at hb
  have hx : x = 0 ∨ x = 1 ∨ x = 2 ∨ x = 3 ∨ x = 4 ∨ x = 5 ∨ x = 6 := by omega
  rcases hx with rfl | rfl | rfl | rfl | rfl | rfl | rfl
  · have hp := pick_le c2 [[119, 111, 114, 107], [111, 108, 100], [97], [66]] 4 (by simp) (by decide)
    generalize hP : pick c2 [[119, 111, 114, 107], [111, 108, 100], [97], [66]] = P at *
    obtain ⟨pw, c4⟩ := P
    simp only at hp
    refine lim_ex (E := E) rfl Tryd.func79 rfl (by kernel_rfl) (by kernel_rfl) ?_
    simp [Tryd.f79, tmpAt, hQ, hP]
    exact ⟨([[109, 97, 107, 101], pw], c4), wOk_of (by simp) (by intro w hw; simp at hw; rcases hw with rfl | rfl <;> (try simp) <;> omega) (by simp [tot]; omega), by simp⟩
  · have hp := pick_le c2 [[119, 111, 114, 107], [111, 108, 100]] 4 (by simp) (by decide)
    generalize hP : pick c2 [[119, 111, 114, 107], [111, 108, 100]] = P at *
    obtain ⟨pw, c4⟩ := P
    simp only at hp
    refine lim_ex (E := E) rfl Tryd.func79 rfl (by kernel_rfl) (by kernel_rfl) ?_
    simp [Tryd.f79, tmpAt, hQ, hP]
    exact ⟨([[100, 114, 111, 112], pw], c4), wOk_of (by simp) (by intro w hw; simp at hw; rcases hw with rfl | rfl <;> (try simp) <;> omega) (by simp [tot]; omega), by simp⟩
  · refine lim_ex (E := E) rfl Tryd.func79 rfl (by kernel_rfl) (by kernel_rfl) ?_
    simp [Tryd.f79, tmpAt, hQ]
    exact ⟨([[99, 108, 111, 115, 101]], c2), wOk_of (by simp) (by intro w hw; simp at hw; subst hw; simp) (by simp [tot]), by simp⟩
  · have hp := pick_le c2 [[50], [53], [57]] 1 (by simp) (by decide)
    generalize hP : pick c2 [[50], [53], [57]] = P at *
    obtain ⟨pw, c4⟩ := P
    simp only at hp
    refine lim_ex (E := E) rfl Tryd.func79 rfl (by kernel_rfl) (by kernel_rfl) ?_
    simp [Tryd.f79, tmpAt, hQ, hP]
    exact ⟨([[115, 116, 111, 114, 101], [49, 58, 42], [43], [40, 97, 110, 115, 119, 101, 114, 101, 100, 41], pw], c4), wOk_of (by simp) (by intro w hw; simp at hw; rcases hw with rfl | rfl | rfl | rfl | rfl <;> (try simp) <;> omega) (by simp [tot]; omega), by simp⟩
  · have hp := pick_le c2 [[49, 58, 51], [50]] 3 (by simp) (by decide)
    generalize hP : pick c2 [[49, 58, 51], [50]] = P at *
    obtain ⟨pw, c4⟩ := P
    simp only at hp
    refine lim_ex (E := E) rfl Tryd.func79 rfl (by kernel_rfl) (by kernel_rfl) ?_
    simp [Tryd.f79, tmpAt, hQ, hP]
    exact ⟨([[101, 120, 112, 117, 110, 103, 101], pw], c4), wOk_of (by simp) (by intro w hw; simp at hw; rcases hw with rfl | rfl <;> (try simp) <;> omega) (by simp [tot]; omega), by simp⟩
  · have hp := pick_le c2 [[119, 104, 97, 116], [115, 101, 108, 101, 99, 116], [97, 100, 100], [115, 116, 111, 114, 101, 32, 49]] 7 (by simp) (by decide)
    generalize hP : pick c2 [[119, 104, 97, 116], [115, 101, 108, 101, 99, 116], [97, 100, 100], [115, 116, 111, 114, 101, 32, 49]] = P at *
    obtain ⟨pw, c4⟩ := P
    simp only at hp
    refine lim_ex (E := E) rfl Tryd.func79 rfl (by kernel_rfl) (by kernel_rfl) ?_
    simp [Tryd.f79, tmpAt, hQ, hP]
    exact ⟨([pw], c4), wOk_of (by simp) (by intro w hw; simp at hw; subst hw; omega) (by simp [tot]; omega), by simp⟩
  · refine lim_ex (E := E) rfl Tryd.func79 rfl (by kernel_rfl) (by kernel_rfl) ?_
    simp [Tryd.f79, tmpAt, hQ]
    exact ⟨([[110, 111, 111, 112]], c2), wOk_of (by simp) (by intro w hw; simp at hw; subst hw; simp) (by simp [tot]), by simp⟩
noncomputable def moreDraw (c : Cur) : List S × Cur := (ex_l15More c).choose
theorem moreDraw_ok (c : Cur) : wOk (moreDraw c).1 := (ex_l15More c).choose_spec.1
theorem eq_l15More (c : Cur) : lim E 79 [.pto (encCur c)] = some (.lst true 9 1 ((moreDraw c).1.map .str), [.pto (encCur (moreDraw c).2)]) := (ex_l15More c).choose_spec.2
end Go.Proofs.YtbcgldeleankcaaDoor
