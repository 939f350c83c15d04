/- Sets: the program's set of a list that ascends; the program's SetFlags. -/
import Derived.Test.YtomeglmblhfafaaGreatDoorcD12
set_option linter.unusedSectionVars false
set_option linter.all false
set_option linter.unusedVariables false
set_option linter.unusedSimpArgs false
set_option maxRecDepth 100000
namespace Go.Proofs.YtomeglmblhfafaaGreatDoor
open Go.Lft

theorem last_dec {α : Type} (l : List α) : l = [] ∨ ∃ (k : List α) (x : α), l = k ++ [x] := by
  rcases List.eq_nil_or_concat l with h | ⟨k, x, h⟩
  · exact .inl h
  · exact .inr ⟨k, x, by simpa using h⟩
theorem setSnoc_nil (n : Int) : setSnoc [] n = [⟨n, n⟩] := rfl
theorem setSnoc_snoc (l : List Range) (r : Range) (n : Int) : setSnoc (l ++ [r]) n = if r.hi = n - 1 then l ++ [⟨r.lo, n⟩] else l ++ [r] ++ [⟨n, n⟩] := by
  simp [setSnoc]
theorem eq_setOfListB (xs : List Int) (hl : xs.length ≤ 16777216) (hb : ∀ x ∈ xs, -1000000 ≤ x ∧ x ≤ 1000000) : lim E 178 [.lst false 3 1 (xs.map (.int .i64))] = some (.tup [.lst true 161 2 ((setOfL xs).map encRange), .bool (setOk (setOfL xs))], []) := by
  refine lim_run (E := E) rfl Tryz.func178 rfl (by kernel_rfl) (by kernel_rfl) ?_
  simp [Tryz.f178, tmpAt]
  refine loop_fr [9, 10] [] (fun m st => ∃ (i r : Nat), i + m = xs.length ∧ (r = 8 ∨ r = 40) ∧ st.env 4 = .slc (r,0) [] 0 (setOfL (xs.take i)).length ∧ st.rs (r,0) = some ⟨false, .lst true 161 2 ((setOfL (xs.take i)).map encRange)⟩ ∧ st.env 11 = .int .i64 i) (xs.length) _ ?_ ?_
  · exact ⟨0, 8, by simp [setOfL]⟩
  rintro m0 ⟨env, rs⟩ hU0 hV0 ⟨i, r, hi, hr, e4, q, e0_11⟩ ih0; simp at hU0 e0_11; clear hV0
  simp at e4 q
  have hw := wrap_up (show i < 4611686018427387904 by omega)
  have hll := setOfL_len (xs.take i)
  rw [List.length_take] at hll
  simp [hU0, e0_11]
  refine RB_dec ?_ ?_ <;> intro h
  · have hn : setOfL (xs.take (i + 1)) = setSnoc (setOfL (xs.take i)) xs[i] := by
      rw [List.take_succ_eq_append_getElem h, setOfL_snoc]
    have hx := hb xs[i] (List.getElem_mem h)
    generalize hA : setOfL (xs.take i) = A at *
    have hb1 : (A.length + 1) * 16 ≤ 140737488351232 := by omega
    have hw1 : IntKind.i64.wrap (xs[i] - 1) = xs[i] - 1 := wrap_in (by omega) (by omega)
    rcases last_dec A with rfl | ⟨l, x, rfl⟩
    · rw [setSnoc_nil] at hn
      simp at e4 q
      rcases hr with rfl | rfl
      all_goals
        simp [hU0, e0_11, h, e4, q, tmpAt]
        refine ih0 (m0 - 1) _ (by omega) ?_ ?_ ⟨i + 1, 40, by omega, by simp, ?_⟩
        · simp [hU0, e0_11, h]
        · simp [hU0, e0_11, h]
        simp [hU0, e0_11, hn, hw]
    · rw [setSnoc_snoc] at hn
      simp at e4 q hll hb1
      have hw2 : IntKind.i64.wrap ((l.length : Int) + 1 - 1) = l.length := by rw [wrap_in (by omega) (by omega)]; omega
      have hw3 : IntKind.i64.wrap (l.length : Int) = l.length := wrap_in (by omega) (by omega)
      by_cases hc : x.hi = xs[i] - 1
      · rw [if_pos hc] at hn
        rcases hr with rfl | rfl
        · simp [hU0, e0_11, h, e4, q, tmpAt, hw1, hw2, hw3, hc]
          repeat (refine And.intro (by first | omega | (simp; omega)) ?_)
          refine ih0 (m0 - 1) _ (by omega) ?_ ?_ ⟨i + 1, 8, by omega, by simp, ?_⟩
          · simp [hU0, e0_11, h]
          · simp [hU0, e0_11, h]
          simp [hU0, e0_11, hn, hw, e4]
        · simp [hU0, e0_11, h, e4, q, tmpAt, hw1, hw2, hw3, hc]
          repeat (refine And.intro (by first | omega | (simp; omega)) ?_)
          refine ih0 (m0 - 1) _ (by omega) ?_ ?_ ⟨i + 1, 40, by omega, by simp, ?_⟩
          · simp [hU0, e0_11, h]
          · simp [hU0, e0_11, h]
          simp [hU0, e0_11, hn, hw, e4]
      · rw [if_neg hc] at hn
        rcases hr with rfl | rfl
        all_goals
          simp [hU0, e0_11, h, e4, q, tmpAt, hw1, hw2, hw3, hc, hb1]
          repeat (refine And.intro (by first | omega | (simp; omega)) ?_)
          refine ih0 (m0 - 1) _ (by omega) ?_ ?_ ⟨i + 1, 40, by omega, by simp, ?_⟩
          · simp [hU0, e0_11, h]
          · simp [hU0, e0_11, h]
          simp [hU0, e0_11, hn, hw]
  · have hfull : xs.take i = xs := List.take_of_length_le (by omega)
    rw [hfull] at e4 q hll
    have w1 := eq_SetOk (setOfL xs) (by omega)
    rcases hr with rfl | rfl
    all_goals simp [hU0, e0_11, e4, q, w1]
theorem eq_setOfList (xs : List Int) (hl : xs.length ≤ 16777216) (hb : ∀ x ∈ xs, 1 ≤ x ∧ x ≤ 9999) : lim E 178 [.lst false 3 1 (xs.map (.int .i64))] = some (.tup [.lst true 161 2 ((setOfL xs).map encRange), .bool (setOk (setOfL xs))], []) :=
  eq_setOfListB xs hl fun x hx => by have := hb x hx; omega
end Go.Proofs.YtomeglmblhfafaaGreatDoor
