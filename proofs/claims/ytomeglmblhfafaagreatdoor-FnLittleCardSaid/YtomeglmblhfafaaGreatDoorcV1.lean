/- What is gone since: of both. -/
import Derived.Test.YtomeglmblhfafaaGreatDoorcP3
import Derived.Test.YtomeglmblhfafaaGreatDoorcD14
set_option linter.unusedSectionVars false
set_option linter.all false
set_option linter.unusedVariables false
set_option linter.unusedSimpArgs false
set_option maxRecDepth 100000
namespace Go.Proofs.YtomeglmblhfafaaGreatDoor
open Go.Lft

theorem eq_Sort (xs : List Int) (hl : xs.length ≤ 16777216) : lim E 259 [.lst true 3 1 (xs.map (.int .i64))] = some (.tup [], [.lst true 3 1 ((sortL xs).map (.int .i64))]) := by
  rw [lim_ext ext259]
  simp [extSort, hl]
def laterU (since : Int) (ts : List Tomb) : List Int := (ts.filter fun t => decide (since < t.mod)).map (·.uid)
noncomputable def vanished (b : Box) (since : Int) : List Range × Bool := if boxOk b = true ∧ b.horizon ≤ since then (setOfL (sortL (laterU since b.tombs)), true) else ([], false)
theorem laterU_ok {b : Box} (h : boxOk b = true) (since : Int) : (laterU since b.tombs).Nodup ∧ (∀ u ∈ laterU since b.tombs, 1 ≤ u ∧ u ≤ 9999) ∧ (laterU since b.tombs).length ≤ 40 := by
  obtain ⟨a, b1, b2, b3, b4, c1, c2, c3, d1, d2, d3, d4⟩ := (boxOk_iff b).1 h
  refine ⟨?_, ?_, ?_⟩
  · unfold laterU List.Nodup
    rw [List.pairwise_map]
    exact d3.filter _
  · intro u hu
    simp only [laterU, List.mem_map, List.mem_filter] at hu
    obtain ⟨m, ⟨hm, _⟩, rfl⟩ := hu
    have := d1 m hm
    unfold TombFine at this
    omega
  · have : (b.tombs.filter fun t => decide (since < t.mod)).length ≤ b.tombs.length := List.length_filter_le ..
    simp only [laterU, List.length_map]; omega
theorem laterU_next (since : Int) (ts : List Tomb) (i : Nat) (h : i < ts.length) : laterU since (ts.take (i + 1)) = laterU since (ts.take i) ++ (if since < ts[i].mod then [ts[i].uid] else []) := by
  unfold laterU
  rw [take_filter _ _ _ h, List.map_append]
  congr 1
  by_cases hc : since < ts[i].mod <;> simp [hc]
theorem eq_Vanished (b : Box) (since : Int) (hs : szBox b ≤ 16777200) : lim E 225 [encBox false false b, .int .i64 since] = some (.tup [.lst true 161 2 ((vanished b since).1.map encRange), .bool (vanished b since).2], []) := by
  have hz : szBox b = b.name.length + (b.mails.length + tot (fun (y : Mail) => szMail y) b.mails) + b.tombs.length := rfl
  have w1 := eq_BoxOk b (by omega)
  try simp at w1
  by_cases hok : boxOk b = true ∧ b.horizon ≤ since
  case neg =>
    have he : vanished b since = ([], false) := by unfold vanished; rw [if_neg hok]
    rw [he]
    refine lim_run (E := E) rfl Tryz.func225 rfl (by kernel_rfl) (by kernel_rfl) ?_
    simp [Tryz.f225, tmpAt, w1]
    repeat' first | (refine RT_dec ?_ ?_ <;> intro hg <;> try simp [tmpAt, hg, w1]) | (refine RT_split ?_ ?_ <;> intro hg <;> (try simp at hg) <;> try simp [tmpAt, hg, w1]) | (refine RB_dec ?_ ?_ <;> intro hg <;> try simp [tmpAt, hg, w1]) | (refine RB_ndec ?_ ?_ <;> intro hg <;> try simp [tmpAt, hg, w1]) | (refine RB_split ?_ ?_ <;> intro hg <;> (try simp at hg) <;> try simp [tmpAt, hg, w1]) | (refine RG_dec ?_ ?_ <;> intro hg <;> try simp [tmpAt, hg, w1]) | (refine RG_split ?_ ?_ <;> intro hg <;> (try simp at hg) <;> try simp [tmpAt, hg, w1])
    all_goals (first | (exfalso; simp_all; done) | (exfalso; simp_all; omega) | (exfalso; apply hok; constructor <;> first | assumption | omega) | trace_state)
  obtain ⟨o1, o2⟩ := hok
  have he : vanished b since = (setOfL (sortL (laterU since b.tombs)), true) := by unfold vanished; rw [if_pos ⟨o1, o2⟩]
  rw [he]
  obtain ⟨u1, u2, u3⟩ := laterU_ok o1 since
  have hml := boxOk_lens o1
  have o3 : ¬ since < b.horizon := by omega
  have wS := eq_Sort (laterU since b.tombs) (by omega)
  have wL := eq_setOfList (sortL (laterU since b.tombs)) (by rw [sortL_len]; omega) (fun x hx => u2 x ((sortL_mem _ x).1 hx))
  have hk : setOk (setOfL (sortL (laterU since b.tombs))) = true := by
    have h1 := setOfL_ok (sortL (laterU since b.tombs)) (sortL_up u1) (fun x hx => u2 x ((sortL_mem _ x).1 hx))
    have h2 := setOfL_len (sortL (laterU since b.tombs))
    rw [sortL_len] at h2
    simp [setOk, h1.1]; omega
  rw [hk] at wL
  refine lim_run (E := E) rfl Tryz.func225 rfl (by kernel_rfl) (by kernel_rfl) ?_
  simp [Tryz.f225, tmpAt, w1, o1, o3]
  refine loop_fr [1, 20, 21] [] (fun m st => ∃ (i r : Nat) (us : List Int), i + m = b.tombs.length ∧ (r = 18 ∨ r = 34) ∧ us = laterU since (b.tombs.take i) ∧ st.env 6 = .slc (r,0) [] 0 us.length ∧ st.rs (r,0) = some ⟨false, .lst true 3 1 (us.map (.int .i64))⟩ ∧ st.env 22 = .int .i64 i) (b.tombs.length) _ ?_ ?_
  · exact ⟨0, 18, [], by simp [laterU]⟩
  rintro m0 ⟨env, rs⟩ hU0 hV0 ⟨i, r, us, hi, hr, hus, e6, q6, e0_22⟩ ih0; simp at hU0 e0_22; clear hV0
  simp at e6 q6
  have hw := wrap_up (show i < 4611686018427387904 by omega)
  have hul : us.length ≤ i := by rw [hus]; simp only [laterU, List.length_map]; refine Nat.le_trans (List.length_filter_le ..) ?_; simp; omega
  have hb : (us.length + 1) * 8 ≤ 140737488351232 := by omega
  simp [hU0, e0_22]
  refine RB_dec ?_ ?_ <;> intro h
  · have hn := laterU_next since b.tombs i h
    simp [hU0, e0_22, h]
    refine RB_dec ?_ ?_ <;> intro hc
    · rw [if_pos hc] at hn
      rcases hr with rfl | rfl
      all_goals
        simp [hU0, e0_22, h, e6, q6, hb]
        repeat (refine And.intro (by first | omega | (simp; omega)) ?_)
        refine ih0 (m0 - 1) _ (by omega) ?_ ?_ ⟨i + 1, 34, us ++ [b.tombs[i].uid], by omega, by simp, by rw [hus]; exact hn.symm, ?_⟩
        · simp [hU0, e0_22, h]
        · simp [hU0, e0_22, h]
        simp [hU0, e0_22, hw]
    · rw [if_neg hc, List.append_nil] at hn
      rcases hr with rfl | rfl
      · simp [hU0, e0_22]
        refine ih0 (m0 - 1) _ (by omega) ?_ ?_ ⟨i + 1, 18, us, by omega, by simp, by rw [hus]; exact hn.symm, ?_⟩
        · simp [hU0, e0_22, h]
        · simp [hU0, e0_22, h]
        simp [hU0, e0_22, hw, e6, q6]
      · simp [hU0, e0_22]
        refine ih0 (m0 - 1) _ (by omega) ?_ ?_ ⟨i + 1, 34, us, by omega, by simp, by rw [hus]; exact hn.symm, ?_⟩
        · simp [hU0, e0_22, h]
        · simp [hU0, e0_22, h]
        simp [hU0, e0_22, hw, e6, q6]
  · rw [List.take_of_length_le (by omega)] at hus
    subst hus
    have hsl := sortL_len (laterU since b.tombs)
    rcases hr with rfl | rfl
    all_goals
      simp [hU0, e0_22, e6, q6, wS, wL, hsl]
theorem eq_sVanished (b : Box) (since : Int) (hs : szBox b ≤ 16777200) : lim E 19 [encBox false false b, .int .i64 since] = some (.tup [.lst true 161 2 ((vanished b since).1.map encRange), .bool (vanished b since).2], []) := by
  have hz : szBox b = b.name.length + (b.mails.length + tot (fun (y : Mail) => szMail y) b.mails) + b.tombs.length := rfl
  have w1 := eq_sBoxOk b (by omega)
  try simp at w1
  by_cases hok : boxOk b = true ∧ b.horizon ≤ since
  case neg =>
    have he : vanished b since = ([], false) := by unfold vanished; rw [if_neg hok]
    rw [he]
    refine lim_run (E := E) rfl Tryz.func19 rfl (by kernel_rfl) (by kernel_rfl) ?_
    simp [Tryz.f19, tmpAt, w1]
    repeat' first | (refine RT_dec ?_ ?_ <;> intro hg <;> try simp [tmpAt, hg, w1]) | (refine RT_split ?_ ?_ <;> intro hg <;> (try simp at hg) <;> try simp [tmpAt, hg, w1]) | (refine RB_dec ?_ ?_ <;> intro hg <;> try simp [tmpAt, hg, w1]) | (refine RB_ndec ?_ ?_ <;> intro hg <;> try simp [tmpAt, hg, w1]) | (refine RB_split ?_ ?_ <;> intro hg <;> (try simp at hg) <;> try simp [tmpAt, hg, w1]) | (refine RG_dec ?_ ?_ <;> intro hg <;> try simp [tmpAt, hg, w1]) | (refine RG_split ?_ ?_ <;> intro hg <;> (try simp at hg) <;> try simp [tmpAt, hg, w1])
    all_goals (first | (exfalso; simp_all; done) | (exfalso; simp_all; omega) | (exfalso; apply hok; constructor <;> first | assumption | omega) | trace_state)
  obtain ⟨o1, o2⟩ := hok
  obtain ⟨u1, u2, u3⟩ := laterU_ok o1 since
  have he : vanished b since = (sAdds (laterU since b.tombs), true) := by unfold vanished; rw [if_pos ⟨o1, o2⟩, sAdds_sort _ u1 u2 u3]
  rw [he]
  have hml := boxOk_lens o1
  have o3 : ¬ since < b.horizon := by omega
  refine lim_run (E := E) rfl Tryz.func19 rfl (by kernel_rfl) (by kernel_rfl) ?_
  simp [Tryz.f19, tmpAt, w1, o1, o3]
  refine loop_fr [1, 2] [(2,0)] (fun m st => ∃ (i r : Nat) (s : List Range), i + m = b.tombs.length ∧ (r = 8 ∨ r = 48) ∧ s = sAdds (laterU since (b.tombs.take i)) ∧ st.env 6 = .slc (r,0) [] 0 s.length ∧ st.rs (r,0) = some ⟨false, .lst true 161 2 (s.map encRange)⟩ ∧ st.env 7 = .int .i64 i) (b.tombs.length) _ ?_ ?_
  · exact ⟨0, 8, [], by simp [laterU]⟩
  rintro m0 ⟨env, rs⟩ hU0 hV0 ⟨i, r, s, hi, hr, hus, e6, q6, e0_7⟩ ih0; simp at hU0 hV0 e0_7
  simp at e6 q6
  have hw := wrap_up (show i < 4611686018427387904 by omega)
  have hsl : s.length ≤ 40 := by rw [hus]; exact sAdds_40 _
  simp [hU0, hV0, e0_7]
  refine RB_dec ?_ ?_ <;> intro h
  · have hn := laterU_next since b.tombs i h
    have a1 := eq_sSetAdd s b.tombs[i].uid b.tombs[i].uid (by omega)
    simp [hU0, hV0, e0_7, h]
    refine RB_dec ?_ ?_ <;> intro hc
    · rw [if_pos hc] at hn
      have hn2 := congrArg sAdds hn
      rw [sAdds_snoc, ← hus] at hn2
      rcases hr with rfl | rfl
      all_goals
        simp [hU0, hV0, e0_7, h, e6, q6, a1]
        refine ⟨trOk_unord (L := [(0, 1), (0, 2), (0, 3), (0, 4), (0, 5), (0, 6), (0, 7), (0, 8), (0, 9), (0, 10), (0, 11), (0, 12), (1, 3), (1, 7), (1, 8), (1, 9), (1, 10), (1, 11), (1, 12), (2, 3), (2, 7), (2, 8), (2, 9), (2, 10), (2, 11), (2, 12), (3, 7), (3, 8), (3, 9), (3, 10), (3, 11), (3, 12), (4, 7), (4, 8), (4, 9), (4, 10), (4, 11), (4, 12), (5, 7), (5, 8), (5, 9), (5, 10), (5, 11), (5, 12), (6, 7), (6, 8), (6, 9), (6, 10), (6, 11), (6, 12), (7, 9), (8, 9), (15, 16), (16, 17)]) (by kernel_rfl) (by simp) (by simp [indepAt, indep, spares, around, aside, pre, isSlc, Tr.feels, Tr.all, moves, bare, opData, isExt, cmpOf, Op.operands, Call.operands, mentL, ment, D.noUndefL, D.noUndef, pureE, hU0, hV0, e0_7, e6, q6]), ?_⟩
        refine ih0 (m0 - 1) _ (by omega) ?_ ?_ ⟨i + 1, 48, (setAdd s b.tombs[i].uid b.tombs[i].uid).1, by omega, by simp, hn2.symm, ?_⟩
        · simp [hU0, hV0, e0_7, h]
        · simp [hU0, hV0, e0_7, h]
        simp [hU0, hV0, e0_7, hw]
    · rw [if_neg hc, List.append_nil] at hn
      rcases hr with rfl | rfl
      · simp [hU0, hV0, e0_7]
        refine ih0 (m0 - 1) _ (by omega) ?_ ?_ ⟨i + 1, 8, s, by omega, by simp, by rw [hus, hn], ?_⟩
        · simp [hU0, hV0, e0_7, h]
        · simp [hU0, hV0, e0_7, h]
        simp [hU0, hV0, e0_7, hw, e6, q6]
      · simp [hU0, hV0, e0_7]
        refine ih0 (m0 - 1) _ (by omega) ?_ ?_ ⟨i + 1, 48, s, by omega, by simp, by rw [hus, hn], ?_⟩
        · simp [hU0, hV0, e0_7, h]
        · simp [hU0, hV0, e0_7, h]
        simp [hU0, hV0, e0_7, hw, e6, q6]
  · rw [List.take_of_length_le (by omega)] at hus
    subst hus
    rcases hr with rfl | rfl
    all_goals
      simp [hU0, hV0, e0_7, e6, q6]
end Go.Proofs.YtomeglmblhfafaaGreatDoor
