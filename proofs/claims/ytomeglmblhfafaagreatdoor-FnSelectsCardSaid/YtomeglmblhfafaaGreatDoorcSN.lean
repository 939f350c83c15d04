/- What is seen of a box, and the same twice. -/
import Derived.Test.YtomeglmblhfafaaGreatDoorcG1
import Derived.Test.YtomeglmblhfafaaGreatDoorcW1
set_option linter.unusedSectionVars false
set_option linter.all false
set_option linter.unusedVariables false
set_option linter.unusedSimpArgs false
set_option maxRecDepth 100000
namespace Go.Proofs.YtomeglmblhfafaaGreatDoor
open Go.Lft

def seenM (m : Mail) : Seen := ⟨m.uid, m.flags, m.mod⟩
set_option maxHeartbeats 2000000 in
theorem eq_seens (b : Box) (hb : b.mails.length ≤ 1048576) : lim E 17 [encBox false false b] = some (.lst true 104 3 ((b.mails.map seenM).map encSeen), []) := by
  have bb : ∀ j : Nat, j ≤ 1048576 → (j + 1) * 24 ≤ 140737488351232 := fun j hj => by omega
  refine lim_run (E := E) rfl Tryz.func17 rfl (by kernel_rfl) (by kernel_rfl) ?_
  simp [Tryz.f17, tmpAt]
  refine loop_fr [1] [(1,0)] (fun m st => ∃ (i r : Nat) (L : List Seen), i + m = b.mails.length ∧ (r = 5 ∨ r = 34) ∧ L = (b.mails.take i).map seenM ∧ L.length = i ∧ st.env 3 = .slc (r,0) [] 0 i ∧ st.rs (r,0) = some ⟨false, .lst true 104 3 (L.map encSeen)⟩ ∧ st.env 4 = .int .i64 i) (b.mails.length) _ ?_ ?_
  · exact ⟨0, 5, [], by simp⟩
  rintro m0 ⟨env, rs⟩ hU0 hV0 ⟨i, r, L, hi, hr, hL, hl, e3, q3, e0_4⟩ ih0; simp at hU0 hV0 e0_4
  simp at e3 q3
  have hu := wrap_up (show i < 4611686018427387904 by omega)
  have b1 := bb i (by clear hr hu; omega)
  simp [hU0, hV0, e0_4]
  refine RB_dec ?_ ?_ <;> intro h
  · have hn : (b.mails.take (i + 1)).map seenM = L ++ [seenM b.mails[i]] := by rw [List.take_succ_eq_append_getElem h, List.map_append, hL]; rfl
    rcases hr with rfl | rfl
    all_goals
      simp [hU0, hV0, e0_4, h, e3, q3, hu, b1, hl]
      refine ⟨trOk_few [20, 21] (L := [(0, 20)]) (by kernel_rfl) (by simp) (by first | kernel_rfl | rfl) (by simp [indepAt, indep, spares, around, aside, pre, isSlc, Tr.feels, Tr.all, moves, bare, opData, isExt, cmpOf, Op.operands, Call.operands, mentL, ment, D.noUndefL, D.noUndef, pureE, hU0, hV0, e0_4, e3]), ?_⟩
      refine ih0 (m0 - 1) _ (by omega) ?_ ?_ ⟨i + 1, 34, L ++ [seenM b.mails[i]], by omega, .inr rfl, hn.symm, by simp [hl], ?_⟩
      · simp [hU0, hV0, e0_4]
      · simp [hU0, hV0, e0_4]
      simp [hU0, hV0, e0_4, hu, seenM]
  · have hd : b.mails.take i = b.mails := List.take_of_length_le (by omega)
    rw [hd] at hL
    rcases hr with rfl | rfl
    all_goals
      simp [hU0, hV0, e0_4, h, e3, q3, hl]
      rw [hL]
      simp
theorem eq_sameSeens (xs : List Seen) (hx : xs.length ≤ 16777216) : lim E 16 [.lst false 104 3 (xs.map encSeen), .lst false 104 3 (xs.map encSeen)] = some (.bool true, []) := by
  refine lim_run (E := E) rfl Tryz.func16 rfl (by kernel_rfl) (by kernel_rfl) ?_
  simp [Tryz.f16, tmpAt]
  refine loop_fr [0, 1] [] (fun m st => ∃ (i : Nat), i + m = xs.length ∧ st.env 5 = .int .i64 i) (xs.length) _ ?_ ?_
  · exact ⟨0, by simp⟩
  rintro m0 ⟨env, rs⟩ hU0 hV0 ⟨i, hi, e0_5⟩ ih0; simp at hU0 e0_5; clear hV0
  have hw := wrap_up (show i < 4611686018427387904 by omega)
  simp [hU0, e0_5]
  refine RB_dec ?_ ?_ <;> intro h
  · simp [hU0, e0_5, h, tmpAt]
    refine ih0 (m0 - 1) _ (by omega) ?_ ?_ ⟨i + 1, by omega, ?_⟩
    · simp [hU0, e0_5]
    · simp [hU0, e0_5]
    simp [hU0, e0_5, hw]
  · simp [hU0, e0_5, h]
end Go.Proofs.YtomeglmblhfafaaGreatDoor
