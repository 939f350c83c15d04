/- Commands: the program's words as texts: isPlain, isShown, quoted; strings.Split at a blank. -/
import Derived.Test.YtbcgldeleankcaaDoorcQ1
import Derived.Test.YtbcgldeleankcaaDoorcB2
set_option linter.unusedSectionVars false
set_option linter.all false
set_option linter.unusedVariables false
set_option linter.unusedSimpArgs false
set_option maxRecDepth 100000
namespace Go.Proofs.YtbcgldeleankcaaDoor
open Go.Lft

theorem eq_isPlain (w : S) (hw : w.length ≤ 1048576) : lim E 58 [.str w] = some (.bool (plainW w), []) := by
  refine lim_run (E := E) rfl Tryd.func58 rfl (by kernel_rfl) (by kernel_rfl) ?_
  simp [Tryd.f58, tmpAt]
  refine loop_fr [0, 5] [] (fun m st => ∃ (i : Nat), i + m = w.length ∧ (w.take i).all plainByte = true ∧ st.env 6 = .int .i64 i) (w.length) _ ?_ ?_
  · exact ⟨0, by simp⟩
  rintro m0 ⟨env, rs⟩ hU0 hV0 ⟨i, hi, ha, e0_6⟩ ih0; simp at hU0 e0_6; clear hV0
  have hu := wrap_up (show i < 4611686018427387904 by omega)
  simp [hU0, e0_6]
  refine RB_dec ?_ ?_ <;> intro h
  · have wp := eq_isPlainByte w[i]
    cases hp : plainByte w[i]
    · rw [hp] at wp
      have hb := all_bad (f := plainByte) h hp
      simp [hU0, e0_6, h, wp]
      simp [plainW, hb]
    · rw [hp] at wp
      simp [hU0, e0_6, h, wp]
      refine ih0 (m0 - 1) _ (by omega) ?_ ?_ ⟨i + 1, by omega, all_next h ha hp, ?_⟩
      · simp [hU0, e0_6]
      · simp [hU0, e0_6]
      simp [hU0, e0_6, hu]
  · have hb := all_take h ha
    have he : within (w.length : Int) 1 60 = plainW w := by
      rw [Bool.eq_iff_iff]; simp [within, plainW, hb]; omega
    simp [hU0, e0_6, h, he]
theorem eq_isShown (w : S) (hw : w.length ≤ 1048576) : lim E 60 [.str w] = some (.bool (shownW w), []) := by
  refine lim_run (E := E) rfl Tryd.func60 rfl (by kernel_rfl) (by kernel_rfl) ?_
  simp [Tryd.f60, tmpAt]
  refine loop_fr [0, 5] [] (fun m st => ∃ (i : Nat), i + m = w.length ∧ (w.take i).all (fun b => within b.toNat 32 126) = true ∧ st.env 6 = .int .i64 i) (w.length) _ ?_ ?_
  · exact ⟨0, by simp⟩
  rintro m0 ⟨env, rs⟩ hU0 hV0 ⟨i, hi, ha, e0_6⟩ ih0; simp at hU0 e0_6; clear hV0
  have hu := wrap_up (show i < 4611686018427387904 by omega)
  simp [hU0, e0_6]
  refine RB_dec ?_ ?_ <;> intro h
  · have hb8 : IntKind.i64.wrap (w[i].toNat : Int) = (w[i].toNat : Int) := wrap_in (by omega) (by have := w[i].toNat_lt; omega)
    cases hp : within (w[i].toNat : Int) 32 126
    · have hb := all_bad (f := fun b : UInt8 => within b.toNat 32 126) h hp
      simp [hU0, e0_6, h, hb8, hp]
      simp [shownW, hb]
    · simp [hU0, e0_6, h, hb8, hp]
      refine ih0 (m0 - 1) _ (by omega) ?_ ?_ ⟨i + 1, by omega, all_next h ha hp, ?_⟩
      · simp [hU0, e0_6]
      · simp [hU0, e0_6]
      simp [hU0, e0_6, hu]
  · have hb := all_take h ha
    simp [hU0, e0_6, h, shownW, hb]
theorem flat_next (w : S) (i : Nat) (h : i < w.length) : (w.take (i + 1)).flatMap quoteB = (w.take i).flatMap quoteB ++ quoteB w[i] := by
  rw [List.take_succ_eq_append_getElem h, List.flatMap_append]; simp
theorem flat_le (w : S) : (w.flatMap quoteB).length ≤ 2 * w.length := by
  induction w with
  | nil => simp
  | cons b w ih =>
    simp only [List.flatMap_cons, List.length_append, List.length_cons]
    have : (quoteB b).length ≤ 2 := by unfold quoteB; split <;> simp
    omega
set_option maxHeartbeats 1000000 in
theorem eq_quoted (w : S) (hw : w.length ≤ 1048576) : lim E 61 [.str w] = some (.str (quotedW w), []) := by
  refine lim_run (E := E) rfl Tryd.func61 rfl (by kernel_rfl) (by kernel_rfl) ?_
  simp [Tryd.f61, tmpAt]
  refine loop_fr [0, 7] [] (fun m st => ∃ (i r : Nat) (out : S), i + m = w.length ∧ (r = 5 ∨ r = 29) ∧ out = 34 :: (w.take i).flatMap quoteB ∧ st.env 3 = .slc (r,0) [] 0 out.length ∧ st.rs (r,0) = some ⟨false, .lst true 5 1 (ofBytes out)⟩ ∧ st.env 8 = .int .i64 i) (w.length) _ ?_ ?_
  · exact ⟨0, 5, [34], by simp [ofBytes]⟩
  rintro m0 ⟨env, rs⟩ hU0 hV0 ⟨i, r, out, hi, hr, ho, e3, q, e0_8⟩ ih0; simp at hU0 e0_8; clear hV0
  simp at e3 q
  have hu := wrap_up (show i < 4611686018427387904 by omega)
  have hl : out.length ≤ 2 * i + 1 := by
    rw [ho]; have := flat_le (w.take i); simp at this ⊢; omega
  simp [hU0, e0_8]
  refine RB_dec ?_ ?_ <;> intro h
  · have hn := flat_next w i h
    have q34 := byteEq w[i] 34 (by omega)
    have q92 := byteEq w[i] 92 (by omega)
    by_cases g1 : (w[i].toNat : Int) = 34
    · have hq : quoteB w[i] = [92, w[i]] := by unfold quoteB; rw [if_pos (.inl (q34.2 g1))]
      rcases hr with rfl | rfl
      all_goals
        simp [hU0, e0_8, e3, q, h, tmpAt, g1]
        refine ⟨by omega, by omega, ?_⟩
        refine ih0 (m0 - 1) _ (by omega) ?_ ?_ ⟨i + 1, 29, out ++ [92, w[i]], by omega, by simp, by rw [hn, hq, ho]; simp, ?_⟩
        · simp [hU0, e0_8]
        · simp [hU0, e0_8]
        simp [hU0, e0_8, hu, ofBytes]
        omega
    · by_cases g2 : (w[i].toNat : Int) = 92
      · have hq : quoteB w[i] = [92, w[i]] := by unfold quoteB; rw [if_pos (.inr (q92.2 g2))]
        rcases hr with rfl | rfl
        all_goals
          simp [hU0, e0_8, e3, q, h, tmpAt, g1, g2]
          refine ⟨by omega, by omega, ?_⟩
          refine ih0 (m0 - 1) _ (by omega) ?_ ?_ ⟨i + 1, 29, out ++ [92, w[i]], by omega, by simp, by rw [hn, hq, ho]; simp, ?_⟩
          · simp [hU0, e0_8]
          · simp [hU0, e0_8]
          simp [hU0, e0_8, hu, ofBytes]
          omega
      · have hq : quoteB w[i] = [w[i]] := by unfold quoteB; rw [if_neg (fun hc => hc.elim (fun h => g1 (q34.1 h)) (fun h => g2 (q92.1 h)))]
        rcases hr with rfl | rfl
        all_goals
          simp [hU0, e0_8, e3, q, h, tmpAt, g1, g2]
          refine ⟨by omega, ?_⟩
          refine ih0 (m0 - 1) _ (by omega) ?_ ?_ ⟨i + 1, 29, out ++ [w[i]], by omega, by simp, by rw [hn, hq, ho]; simp, ?_⟩
          · simp [hU0, e0_8]
          · simp [hU0, e0_8]
          simp [hU0, e0_8, hu, ofBytes]
  · have ht : w.take i = w := List.take_of_length_le (by omega)
    rw [ht] at ho
    have hT : List.take (out.length + 1) (ofBytes out ++ [D.int IntKind.u8 34]) = ofBytes out ++ [D.int IntKind.u8 34] := List.take_of_length_le (by simp)
    rcases hr with rfl | rfl
    all_goals
      simp [hU0, e0_8, e3, q, h, hT]
      refine ⟨by omega, ?_⟩
      simp [quotedW, ho]
end Go.Proofs.YtbcgldeleankcaaDoor
