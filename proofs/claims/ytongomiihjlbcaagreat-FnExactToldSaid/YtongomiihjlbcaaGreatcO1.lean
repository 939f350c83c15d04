/- The reference's TakeLine. -/
import Derived.Test.YtongomiihjlbcaaGreatcG1
set_option linter.unusedSectionVars false
set_option linter.all false
set_option linter.unusedVariables false
set_option linter.unusedSimpArgs false
set_option maxRecDepth 100000
namespace Go.Proofs.YtongomiihjlbcaaGreat
open Go.Lft

theorem takeLine_len (l : List Seen) (x : Line) : (takeLine l x).length ≤ max l.length 30 := by
  unfold takeLine
  split
  · rename_i h
    have := h.2
    simp [within] at this
    simp; omega
  · split
    · simp; omega
    · split
      · simp; omega
      · split
        · simp
        · omega
set_option maxHeartbeats 1000000 in
theorem eq_sTakeLine (l : List Seen) (x : Line) (hl : l.length ≤ 1048576) : lim E 17 [.lst false 86 3 (l.map encSeen), encLine false false x] = some (.lst true 86 3 ((takeLine l x).map encSeen), []) := by
  obtain ⟨kind, num, uid, flags, mod, set_, all_⟩ := x
  have b1 : ∀ n : Nat, n ≤ 1048576 → (n + 1) * 24 ≤ 140737488351232 := fun n h => by omega
  have b0 : ∀ n : Nat, n ≤ 1048576 → n * 24 ≤ 140737488351232 := fun n h => by omega
  have bl := b0 _ hl
  by_cases k1 : kind = 1
  · subst k1
    cases hw : within num 0 30
    · refine lim_run (E := E) rfl Tryz.func17 rfl (by kernel_rfl) (by kernel_rfl) ?_
      simp [Tryz.f17, tmpAt, hw, bl]
      simp [takeLine, hw]
    · obtain ⟨n, rfl⟩ : ∃ n : Nat, num = n := ⟨num.toNat, by simp [within] at hw; omega⟩
      have hn : n ≤ 30 := by simp [within] at hw; omega
      refine lim_run (E := E) rfl Tryz.func17 rfl (by kernel_rfl) (by kernel_rfl) ?_
      simp [Tryz.f17, tmpAt, hw, bl]
      refine loop_fr [3] [(3,0)] (fun m st => ∃ (k r : Nat), k + m = n - l.length ∧ (r = 8 ∨ r = 26) ∧ st.env 5 = .slc (r,0) [] 0 (l.length + k) ∧ st.rs (r,0) = some ⟨false, .lst true 86 3 ((l ++ List.replicate k (⟨0, 0, 0⟩ : Seen)).map encSeen)⟩) ((n - l.length)) _ ?_ ?_
      · exact ⟨0, 8, by simp⟩
      rintro m0 ⟨env, rs⟩ hU0 hV0 ⟨k, r, hk, hr, e5, q5⟩ ih0; simp at hU0 hV0
      simp at e5 q5
      have b2 := b1 (l.length + k)
      have b3 := b0 n (by omega)
      simp [hU0, hV0, e5]
      refine RB_dec ?_ ?_ <;> intro h
      · have hb := b2 (by omega)
        have hrep : (l ++ List.replicate k (⟨0, 0, 0⟩ : Seen)) ++ [⟨0, 0, 0⟩] = l ++ List.replicate (k + 1) ⟨0, 0, 0⟩ := by
          rw [List.append_assoc, ← List.replicate_succ']
        rcases hr with rfl | rfl
        all_goals
          simp [hU0, hV0, e5, q5, hb]
          repeat (refine And.intro (by first | omega | (simp; omega)) ?_)
          refine ih0 (m0 - 1) _ (by omega) ?_ ?_ ⟨k + 1, 26, by omega, by simp, ?_⟩
          · simp [hU0, hV0]
          · simp [hU0, hV0]
          simp [hU0, hV0, ← hrep, Nat.add_assoc]
      · have hle : n ≤ l.length + k := by omega
        have hk2 : k = n - l.length := by omega
        by_cases hq : n = l.length + k
        · have ht : (l ++ List.replicate (n - l.length) (⟨0, 0, 0⟩ : Seen)).take n = l ++ List.replicate k ⟨0, 0, 0⟩ := by
            rw [← hk2]; exact List.take_of_length_le (by simp; omega)
          rcases hr with rfl | rfl
          all_goals
            simp [hU0, hV0, e5, q5, hle, b3, ← hq]
            simp [takeLine, hw, ht]
        · obtain rfl : k = 0 := by omega
          have hn0 : n - l.length = 0 := by omega
          have hnl : n ≤ l.length := by omega
          have hql : ¬ n = l.length := by omega
          have hmin : min n l.length = n := by omega
          rcases hr with rfl | rfl
          all_goals
            simp at e5 q5
            simp [hU0, hV0, e5, q5, hnl, b3, hql, hmin]
            simp [takeLine, hw, hn0]
  · by_cases k2 : kind = 2
    · subst k2
      cases hw : within num 1 l.length
      · refine lim_run (E := E) rfl Tryz.func17 rfl (by kernel_rfl) (by kernel_rfl) ?_
        simp [Tryz.f17, tmpAt, hw, bl]
        simp [takeLine, hw]
      · obtain ⟨n, rfl⟩ : ∃ n : Nat, num = (n : Int) + 1 := ⟨(num - 1).toNat, by simp [within] at hw; omega⟩
        have hn : n < l.length := by simp [within] at hw; omega
        have hw0 : IntKind.i64.wrap ((n : Int) + 1 - 1) = (n : Int) := by rw [wrap_in (by omega) (by omega)]; omega
        have hw1 : IntKind.i64.wrap (n : Int) = (n : Int) := wrap_in (by omega) (by omega)
        have hn1 : ((n : Int) + 1).toNat = n + 1 := by omega
        have b3 := b0 n (by omega)
        have b4 := b0 (n + (l.length - (n + 1))) (by omega)
        have hle : n ≤ l.length := by omega
        have hmin : min n l.length = n := by omega
        have hn' : n + 1 ≤ l.length := by omega
        have h01 : (0 : Int) ≤ (n : Int) + 1 := by omega
        refine lim_run (E := E) rfl Tryz.func17 rfl (by kernel_rfl) (by kernel_rfl) ?_
        simp [Tryz.f17, tmpAt, hw, hw0, hw1, hn1, bl, b3, b4, hle, hmin, hn, hn', h01]
        simp [takeLine, hw, hn1]
        exact trOk_unord (L := [(0, 1), (0, 2), (0, 3), (0, 4), (0, 5), (0, 7), (0, 8), (0, 9), (0, 10), (1, 2), (1, 3), (1, 4), (1, 7), (1, 8), (1, 9), (1, 10), (2, 7), (2, 8), (2, 9), (2, 10), (3, 7), (3, 8), (3, 9), (3, 10), (4, 7), (4, 8), (4, 9), (4, 10), (5, 7), (5, 8), (5, 9), (5, 10), (6, 7), (6, 8), (6, 9), (6, 10), (7, 8), (7, 9)]) (by kernel_rfl) (by simp) (by simp [indepAt, indep, spares, around, pre, isSlc, Tr.feels, Tr.all, moves, bare, opData, isExt, cmpOf, Op.operands, Call.operands, mentL, ment, D.noUndefL, D.noUndef, pureE])
    · by_cases k3 : kind = 3
      · subst k3
        cases hw : within num 1 l.length
        · refine lim_run (E := E) rfl Tryz.func17 rfl (by kernel_rfl) (by kernel_rfl) ?_
          simp [Tryz.f17, tmpAt, hw, bl]
          simp [takeLine, hw]
        · obtain ⟨n, rfl⟩ : ∃ n : Nat, num = (n : Int) + 1 := ⟨(num - 1).toNat, by simp [within] at hw; omega⟩
          have hn : n < l.length := by simp [within] at hw; omega
          have hw0 : IntKind.i64.wrap ((n : Int) + 1 - 1) = (n : Int) := by rw [wrap_in (by omega) (by omega)]; omega
          have hw1 : IntKind.i64.wrap (n : Int) = (n : Int) := wrap_in (by omega) (by omega)
          have hn1 : ((n : Int) + 1).toNat = n + 1 := by omega
          refine lim_run (E := E) rfl Tryz.func17 rfl (by kernel_rfl) (by kernel_rfl) ?_
          simp [Tryz.f17, tmpAt, hw, hw0, hw1, hn, bl]
          first | done | simp [takeLine, hw, hn1]
      · by_cases k9 : kind = 9
        · subst k9
          refine lim_run (E := E) rfl Tryz.func17 rfl (by kernel_rfl) (by kernel_rfl) ?_
          simp [Tryz.f17, tmpAt, bl]
          simp [takeLine]
        · refine lim_run (E := E) rfl Tryz.func17 rfl (by kernel_rfl) (by kernel_rfl) ?_
          simp [Tryz.f17, tmpAt, k1, k2, k3, k9, bl]
          simp [takeLine, k1, k2, k3, k9]
end Go.Proofs.YtongomiihjlbcaaGreat
