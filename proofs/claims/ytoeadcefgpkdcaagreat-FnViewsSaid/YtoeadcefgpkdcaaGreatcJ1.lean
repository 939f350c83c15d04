/- Views: a Uid's place; of both. The set of Uids of places: of both. -/
import Derived.Test.YtoeadcefgpkdcaaGreatcF1
import Derived.Test.YtoeadcefgpkdcaaGreatcP3
set_option linter.unusedSectionVars false
set_option linter.all false
set_option linter.unusedVariables false
set_option linter.unusedSimpArgs false
set_option maxRecDepth 100000
namespace Go.Proofs.YtoeadcefgpkdcaaGreat
open Go.Lft

theorem eq_IndexInts (xs : List Int) (u : Int) (hl : xs.length ≤ 16777216) : lim E 39 [.lst false 3 1 (xs.map (.int .i64)), .int .i64 u] = some (.int .i64 (idxOf (fun y => decide (u = y)) xs), []) := by
  refine lim_run (E := E) rfl Tryz.func39 rfl (by kernel_rfl) (by kernel_rfl) ?_
  simp [Tryz.f39, tmpAt]
  refine loop_fr [0, 1, 7] [] (fun m st => ∃ (i : Nat), i + m = xs.length ∧ (xs.take i).any (fun y => decide (u = y)) = false ∧ st.env 8 = .int .i64 i) (xs.length) _ ?_ ?_
  · exact ⟨0, by simp⟩
  rintro m0 ⟨env, rs⟩ hU0 hV0 ⟨i, hi, hs, e0_8⟩ ih0; simp at hU0 e0_8; clear hV0
  have hw := wrap_up (show i < 4611686018427387904 by omega)
  simp [hU0, e0_8]
  refine RB_dec ?_ ?_ <;> intro h
  · simp [hU0, e0_8, h, tmpAt]
    refine RB_dec ?_ ?_ <;> intro h2 <;> simp [hU0, e0_8, h]
    · exact (idxOf_at h hs (by simp [h2])).symm
    · refine ih0 (m0 - 1) _ (by omega) ?_ ?_ ⟨i + 1, by omega, any_next h hs (by simp [h2]), ?_⟩
      · simp [hU0, e0_8]
      · simp [hU0, e0_8]
      simp [hU0, e0_8, hw]
  · simp [hU0, e0_8, h]
    exact (idxOf_none (any_take h hs)).symm
def placeIn (v : View) (u : Int) : Int := idxOf (fun y => decide (u = y)) v.uids + 1
theorem idxOf_in {α : Type} (p : α → Bool) (xs : List α) : -1 ≤ idxOf p xs ∧ idxOf p xs < xs.length := by
  cases h : xs.any p with
  | false => rw [idxOf_none h]; omega
  | true =>
    have h2 : xs.findIdx? p ≠ none := by
      intro hn
      rw [List.findIdx?_eq_none_iff] at hn
      rw [List.any_eq_true] at h
      obtain ⟨x, hx, hp⟩ := h
      rw [hn x hx] at hp; cases hp
    obtain ⟨i, hi⟩ := Option.ne_none_iff_exists'.1 h2
    obtain ⟨h3, _, _⟩ := List.findIdx?_eq_some_iff_getElem.1 hi
    simp [idxOf, hi]; omega
theorem eq_PlaceIn (v : View) (u : Int) (hl : v.uids.length ≤ 16777216) : lim E 13 [encView false v, .int .i64 u] = some (.int .i64 (placeIn v u), []) := by
  have w := eq_IndexInts v.uids u hl
  have h := idxOf_in (fun y => decide (u = y)) v.uids
  have hw : IntKind.i64.wrap (idxOf (fun y => decide (u = y)) v.uids + 1) = idxOf (fun y => decide (u = y)) v.uids + 1 := wrap_in (by omega) (by omega)
  refine lim_run (E := E) rfl Tryz.func13 rfl (by kernel_rfl) (by kernel_rfl) ?_
  simp [Tryz.f13, tmpAt, w, hw]
  rfl
theorem eq_sPlaceIn (v : View) (u : Int) (hl : v.uids.length ≤ 16777216) : lim E 17 [encView false v, .int .i64 u] = some (.int .i64 (placeIn v u), []) := by
  refine lim_run (E := E) rfl Tryz.func17 rfl (by kernel_rfl) (by kernel_rfl) ?_
  simp [Tryz.f17, tmpAt]
  refine loop_fr [1, 2] [(2,0)] (fun m st => ∃ (i : Nat), i + m = v.uids.length ∧ (v.uids.take i).any (fun y => decide (u = y)) = false ∧ st.env 5 = .int .i64 i) (v.uids.length) _ ?_ ?_
  · exact ⟨0, by simp⟩
  rintro m0 ⟨env, rs⟩ hU0 hV0 ⟨i, hi, hs, e0_5⟩ ih0; simp at hU0 hV0 e0_5
  have hw := wrap_up (show i < 4611686018427387904 by omega)
  simp [hU0, hV0, e0_5]
  refine RB_dec ?_ ?_ <;> intro h
  · simp [hU0, hV0, e0_5, h, tmpAt]
    refine RB_dec ?_ ?_ <;> intro h2 <;> simp [hU0, hV0, e0_5, h]
    · rw [placeIn, idxOf_at h hs (by simp [h2]), hw]
      simp
    · refine ih0 (m0 - 1) _ (by omega) ?_ ?_ ⟨i + 1, by omega, any_next h hs (by simp; omega), ?_⟩
      · simp [hU0, hV0, e0_5]
      · simp [hU0, hV0, e0_5]
      simp [hU0, hV0, e0_5, hw]
  · simp [hU0, hV0, e0_5, h, placeIn, idxOf_none (any_take h hs)]
theorem eq_copyInts (l : List Int) (h : l.length ≤ 16777216) : lim E 59 [.lst false 3 1 (l.map (.int .i64))] = some (.lst true 3 1 (l.map (.int .i64)), []) := by
  have h1 : l.length * 8 ≤ 140737488351232 := by omega
  refine lim_run (E := E) rfl Tryz.func59 rfl (by kernel_rfl) (by kernel_rfl) ?_
  simp [Tryz.f59, tmpAt, h1]
theorem eq_Compact (zs : List Int) (hl : zs.length ≤ 16777216) : lim E 62 [.lst true 3 1 (zs.map (.int .i64))] = some (.lst true 3 1 ((Go.Lib.compact zs).map (.int .i64)), [.undef]) := by
  rw [lim_ext ext62]
  simp [extCompact, hl]
end Go.Proofs.YtoeadcefgpkdcaaGreat
