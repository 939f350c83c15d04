/- Draws of mails, of sets, of boxes. -/
import Derived.Test.YtomeglmblhfafaaGreatDoorcC1
import Derived.Test.YtomeglmblhfafaaGreatDoorcD12
set_option linter.unusedSectionVars false
set_option linter.all false
set_option linter.unusedVariables false
set_option linter.unusedSimpArgs false
set_option maxRecDepth 100000
namespace Go.Proofs.YtomeglmblhfafaaGreatDoor
open Go.Lft

@[simp] theorem strMax_def : strMax = 4611686018427387904 := rfl
theorem ex_l07Mail (c : Cur) : ∃ r : S × Cur, (r.1.length ≤ 100) ∧ lim E 69 [.pto (encCur c)] = some (.str r.1, [.pto (encCur r.2)]) := by
  refine ex_split ?_
  refine lim_ex (E := E) rfl Tryz.func69 rfl (by kernel_rfl) (by kernel_rfl) ?_
  simp [Tryz.f69, tmpAt]
  generalize hp : pick c _ = P
  have hb := pick_tot hp
  clear hp
  obtain ⟨s1, c1⟩ := P
  simp [tot] at hb
  simp
  repeat (refine And.intro (by first | omega | (simp; omega)) ?_)
  refine RB_split ?_ ?_ <;> intro h1 <;> simp
  · generalize (once c1 2).2 = c2
    generalize hp : pick c2 _ = P
    have hb2 := pick_tot hp
    clear hp
    obtain ⟨s2, c3⟩ := P
    simp [tot] at hb2
    simp
    repeat (refine And.intro (by first | omega | (simp; omega)) ?_)
    refine RB_split ?_ ?_ <;> intro h2 <;> simp
    · exact ⟨(_, _), by simp; omega, rfl⟩
    · generalize (once c3 6).2 = c4
      generalize hp : pick c4 _ = P
      have hb3 := pick_tot hp
      clear hp
      obtain ⟨s3, c5⟩ := P
      simp [tot] at hb3
      simp
      repeat (refine And.intro (by first | omega | (simp; omega)) ?_)
      exact ⟨(_, _), by simp; omega, rfl⟩
  · generalize (once c1 2).2 = c3
    refine RB_split ?_ ?_ <;> intro h2 <;> simp
    · exact ⟨(_, _), by simp; omega, rfl⟩
    · generalize (once c3 6).2 = c4
      generalize hp : pick c4 _ = P
      have hb3 := pick_tot hp
      clear hp
      obtain ⟨s3, c5⟩ := P
      simp [tot] at hb3
      simp
      repeat (refine And.intro (by first | omega | (simp; omega)) ?_)
      exact ⟨(_, _), by simp; omega, rfl⟩
noncomputable def mailDraw (c : Cur) : S × Cur := (ex_l07Mail c).choose
theorem mailDraw_len (c : Cur) : (mailDraw c).1.length ≤ 100 := (ex_l07Mail c).choose_spec.1
@[simp] theorem eq_l07Mail (c : Cur) : lim E 69 [.pto (encCur c)] = some (.str (mailDraw c).1, [.pto (encCur (mailDraw c).2)]) := (ex_l07Mail c).choose_spec.2
theorem setAdd_ok {s : List Range} {lo hi : Int} (h : setOk s = true) : setOk (setAdd s lo hi).1 = true := by
  unfold setAdd
  split
  · split
    · assumption
    · exact h
  · exact h
theorem setOk_40 {s : List Range} (h : setOk s = true) : s.length ≤ 40 := by simp [setOk] at h; omega
theorem ex_l05Draw (c : Cur) : ∃ r : List Range × Cur, (setOk r.1 = true) ∧ lim E 116 [.pto (encCur c)] = some (.lst true 161 2 (r.1.map encRange), [.pto (encCur r.2)]) := by
  refine ex_split ?_
  refine lim_ex (E := E) rfl Tryz.func116 rfl (by kernel_rfl) (by kernel_rfl) ?_
  simp [Tryz.f116, tmpAt]
  refine loop_fr [0] [] (fun m st => ∃ (i r : Nat) (s : List Range) (c' : Cur), i + m = 5 ∧ (r = 6 ∨ r = 23) ∧ setOk s = true ∧ st.env 3 = .slc (r,0) [] 0 s.length ∧ st.rs (r,0) = some ⟨false, .lst true 161 2 (s.map encRange)⟩ ∧ st.env 4 = .int .i64 i ∧ st.rs (0,99) = some ⟨true, encCur c'⟩) (5) _ ?_ ?_
  · exact ⟨0, 6, [], c, by simp [setOk, setOkL]⟩
  rintro m0 ⟨env, rs⟩ hU0 hV0 ⟨i, r, s, c', hi, hr, hs, e3, q3, e0_4, r0_0_99⟩ ih0; simp at hU0 e0_4 r0_0_99; clear hV0
  simp at e3 q3
  have hs4 := setOk_40 hs
  have hw := wrap_up (show i < 4611686018427387904 by omega)
  have hb := below_in c' 5
  have k1 : ¬ r = 23 → r = 6 := by omega
  have wrap_it : ∀ n : Int, 0 ≤ n → n < 1000 → IntKind.i64.wrap n = n := fun n h1 h2 => wrap_in (by omega) (by omega)
  simp [hU0, e0_4, r0_0_99]
  refine RB_dec ?_ ?_ <;> intro h
  · generalize (below c' 5).2 = c2
    have hb2 := below_in c2 14
    have hb3 := below_in (below c2 14).2 4
    have a1 := eq_sSetAdd s (IntKind.i64.wrap (1 + (below c2 14).1)) (IntKind.i64.wrap (IntKind.i64.wrap (1 + (below c2 14).1) + (below (below c2 14).2 4).1)) (by omega)
    have hl := setAdd_ok (lo := IntKind.i64.wrap (1 + (below c2 14).1)) (hi := IntKind.i64.wrap (IntKind.i64.wrap (1 + (below c2 14).1) + (below (below c2 14).2 4).1)) hs
    rcases hr with rfl | rfl
    all_goals
      simp [hU0, e0_4, r0_0_99, e3, q3, a1, hw]
      refine ih0 (m0 - 1) _ (by omega) ?_ ?_ ⟨i + 1, 23, _, (below (below c2 14).2 4).2, by omega, by simp, hl, ?_⟩
      · simp [hU0, e0_4, r0_0_99]
      · simp [hU0, e0_4, r0_0_99]
      simp [hU0, e0_4, r0_0_99]
  · generalize (below c' 5).2 = c2
    have a1 := eq_sSetAdd s 9998 9999 (by omega)
    have hl := setAdd_ok (lo := 9998) (hi := 9999) hs
    rcases hr with rfl | rfl
    all_goals
      simp [hU0, e0_4, r0_0_99]
      refine RB_split ?_ ?_ <;> intro h2 <;> simp [hU0, e0_4, r0_0_99, e3, q3, a1]
      · exact ⟨(_, _), hl, rfl⟩
      · exact ⟨(_, _), hs, rfl⟩
noncomputable def setDraw (c : Cur) : List Range × Cur := (ex_l05Draw c).choose
theorem setDraw_ok (c : Cur) : setOk (setDraw c).1 = true := (ex_l05Draw c).choose_spec.1
theorem setDraw_len (c : Cur) : (setDraw c).1.length ≤ 40 := setOk_40 (setDraw_ok c)
@[simp] theorem eq_l05Draw (c : Cur) : lim E 116 [.pto (encCur c)] = some (.lst true 161 2 ((setDraw c).1.map encRange), [.pto (encCur (setDraw c).2)]) := (ex_l05Draw c).choose_spec.2
end Go.Proofs.YtomeglmblhfafaaGreatDoor
