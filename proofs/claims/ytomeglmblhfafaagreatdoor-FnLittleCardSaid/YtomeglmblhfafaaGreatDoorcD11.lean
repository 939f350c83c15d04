/- Boxes: the reference's ForgetTombs. -/
import Derived.Test.YtomeglmblhfafaaGreatDoorcD10
set_option linter.unusedSectionVars false
set_option linter.all false
set_option linter.unusedVariables false
set_option linter.unusedSimpArgs false
set_option maxRecDepth 100000
namespace Go.Proofs.YtomeglmblhfafaaGreatDoor
open Go.Lft

def forgot (b : Box) (upto : Int) : Box := ⟨b.name, b.valid, b.next, b.mod, b.mails, b.tombs.filter (fun t => decide (upto < t.mod)), if b.horizon < upto then upto else b.horizon⟩
noncomputable def forget (b : Box) (upto : Int) : Box := if boxOk b = true ∧ within upto 0 b.mod = true then forgot b upto else b
set_option maxHeartbeats 1000000 in
theorem eq_sForgetTombs (b : Box) (upto : Int) (hs : szBox b ≤ 16777200) : lim E 155 [encBox false false b, .int .i64 upto] = some (encBox false true (forget b upto), []) := by
  have hz : szBox b = b.name.length + (b.mails.length + tot (fun (y : Mail) => szMail y) b.mails) + b.tombs.length := rfl
  have w1 := eq_sBoxOk b (by omega)
  try simp at w1
  have w2 := eq_l08Copy b (by omega)
  try simp at w2
  by_cases hok : boxOk b = true ∧ within upto 0 b.mod = true
  · have hf : forget b upto = forgot b upto := by simp [forget, hok]
    rw [hf]
    refine lim_run (E := E) rfl Tryz.func155 rfl (by kernel_rfl) (by kernel_rfl) ?_
    simp [Tryz.f155, tmpAt, w1, w2, hok.1, hok.2]
    refine loop_fr [1, 2, 4, 5] [(2,0), (4,0)] (fun m st => ∃ (i : Nat), i + m = b.tombs.length ∧ st.env 6 = .int .i64 i ∧ st.rs (5,0) = some ⟨true, encBox false true ⟨b.name, b.valid, b.next, b.mod, b.mails, (b.tombs.take i).filter (fun t => decide (upto < t.mod)), b.horizon⟩⟩) (b.tombs.length) _ ?_ ?_
    · exact ⟨0, by simp⟩
    rintro m0 ⟨env, rs⟩ hU0 hV0 ⟨i, hi, e0_6, r0_5_0⟩ ih0; simp at hU0 hV0 e0_6 r0_5_0
    have hw := wrap_up (show i < 4611686018427387904 by omega)
    simp [hU0, hV0, e0_6, r0_5_0]
    refine RB_dec ?_ ?_ <;> intro h
    · have hn := take_filter (fun t : Tomb => decide (upto < t.mod)) b.tombs i h
      have hlen : ((b.tombs.take i).filter (fun t : Tomb => decide (upto < t.mod))).length ≤ i := Nat.le_trans (List.length_filter_le ..) (by simp; omega)
      generalize hA : (b.tombs.take i).filter (fun t : Tomb => decide (upto < t.mod)) = A at *
      have h1 : (A.length + 1) * 16 ≤ 140737488351232 := by omega
      simp [hU0, hV0, e0_6, r0_5_0, h]
      refine RB_dec ?_ ?_ <;> intro hc
      · simp [hc] at hn
        simp [hU0, hV0, e0_6, r0_5_0, h, h1]
        refine ⟨trOk_unord (L := [(0, 2), (0, 3), (0, 4), (0, 5), (0, 6), (0, 7), (1, 2), (1, 3), (1, 4), (1, 5), (1, 6), (1, 7), (2, 4), (3, 4)]) (by kernel_rfl) (by simp) (by simp [indepAt, indep, spares, around, aside, pre, isSlc, Tr.feels, Tr.all, moves, bare, opData, isExt, cmpOf, Op.operands, Call.operands, mentL, ment, D.noUndefL, D.noUndef, pureE, hU0, hV0, e0_6, r0_5_0]), ?_⟩
        refine ih0 (m0 - 1) _ (by omega) ?_ ?_ ⟨i + 1, by omega, ?_⟩
        · simp [hU0, hV0, e0_6, r0_5_0, h]
        · simp [hU0, hV0, e0_6, r0_5_0, h]
        simp [hU0, hV0, e0_6, r0_5_0, hn, hw]
      · simp [hc] at hn
        simp [hU0, hV0, e0_6, r0_5_0]
        refine ih0 (m0 - 1) _ (by omega) ?_ ?_ ⟨i + 1, by omega, ?_⟩
        · simp [hU0, hV0, e0_6, r0_5_0, h]
        · simp [hU0, hV0, e0_6, r0_5_0, h]
        simp [hU0, hV0, e0_6, r0_5_0, hn, hA, hw]
    · have hfull : b.tombs.take i = b.tombs := List.take_of_length_le (by omega)
      simp only [hfull] at r0_5_0
      simp [hU0, hV0, e0_6, r0_5_0, h]
      refine RB_dec ?_ ?_ <;> intro hc <;> simp [hU0, hV0, e0_6, r0_5_0, forgot, hc]
  · have hf : forget b upto = b := by simp only [forget, if_neg hok]
    rw [hf]
    refine lim_run (E := E) rfl Tryz.func155 rfl (by kernel_rfl) (by kernel_rfl) ?_
    simp [Tryz.f155, tmpAt, w1, w2]
    repeat' first | (refine RT_dec ?_ ?_ <;> intro hg <;> try simp [tmpAt, hg, w1, w2]) | (refine RT_split ?_ ?_ <;> intro hg <;> (try simp at hg) <;> try simp [tmpAt, hg, w1, w2]) | (refine RB_dec ?_ ?_ <;> intro hg <;> try simp [tmpAt, hg, w1, w2]) | (refine RB_ndec ?_ ?_ <;> intro hg <;> try simp [tmpAt, hg, w1, w2]) | (refine RB_split ?_ ?_ <;> intro hg <;> (try simp at hg) <;> try simp [tmpAt, hg, w1, w2]) | (refine RG_dec ?_ ?_ <;> intro hg <;> try simp [tmpAt, hg, w1, w2]) | (refine RG_split ?_ ?_ <;> intro hg <;> (try simp at hg) <;> try simp [tmpAt, hg, w1, w2])
    all_goals (exfalso; simp_all)
end Go.Proofs.YtomeglmblhfafaaGreatDoor
