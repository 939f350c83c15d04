/- The law FnStores, at the level of data: true for all data. -/
import Derived.Test.YtoeadcefgpkdcaacE2
import Derived.Test.YtoeadcefgpkdcaacD14
set_option linter.unusedSectionVars false
set_option linter.all false
set_option linter.unusedVariables false
set_option linter.unusedSimpArgs false
set_option maxRecDepth 100000
namespace Go.Proofs.Ytoeadcefgpkdcaa
open Go.Lft

theorem uid_inj {b : Box} (hok : boxOk b = true) {p : Mail → Bool} {m : Mail} (hm : m ∈ b.mails) : m.uid ∈ (b.mails.filter p).map (·.uid) ↔ p m = true := by
  obtain ⟨_, _, _, _, _, _, c2, _⟩ := (boxOk_iff b).1 hok
  constructor
  · intro h
    simp only [List.mem_map, List.mem_filter] at h
    obtain ⟨x, ⟨hx, hp⟩, he⟩ := h
    have : x = m := by
      rw [List.pairwise_iff_getElem] at c2
      obtain ⟨i, hi, rfl⟩ := List.getElem_of_mem hx
      obtain ⟨j, hj, rfl⟩ := List.getElem_of_mem hm
      rcases Nat.lt_trichotomy i j with h | h | h
      · have := c2 i j hi hj h; omega
      · subst h; rfl
      · have := c2 j i hj hi h; omega
    rw [← this]; exact hp
  · intro h
    exact List.mem_map.2 ⟨m, List.mem_filter.2 ⟨hm, h⟩, rfl⟩
theorem setFlags_sets {b : Box} (hok : boxOk b = true) (s : List Range) (how bits since : Int) : sAdds (setFlags b s how bits since).2.1 = setOfL (setFlags b s how bits since).2.1 ∧ sAdds (setFlags b s how bits since).2.2 = setOfL (setFlags b s how bits since).2.2 ∧ (setOfL (setFlags b s how bits since).2.1).length ≤ 30 ∧ (setOfL (setFlags b s how bits since).2.2).length ≤ 30 := by
  have h1 := uids_up hok (isDone s how bits since)
  have h2 := uids_up hok (isLate s since)
  unfold setFlags
  split
  · refine ⟨sAdds_uids hok _, sAdds_uids hok _, ?_, ?_⟩
    · exact Nat.le_trans (setOfL_len _) h1.2.2
    · exact Nat.le_trans (setOfL_len _) h2.2.2
  · simp [setOfL]
theorem setFlags_tells {b : Box} (hok : boxOk b = true) (s : List Range) (how bits since : Int) : (setFlags b s how bits since).1.mails.length = b.mails.length ∧ ((setFlags b s how bits since).1.mod = b.mod ∨ (setFlags b s how bits since).1.mod = b.mod + 1) ∧
    (∀ i (h : i < b.mails.length) (h' : i < (setFlags b s how bits since).1.mails.length), ((setHas (setOfL (setFlags b s how bits since).2.1) b.mails[i].uid = false ∧ (setFlags b s how bits since).1.mails[i] = b.mails[i]) ∨ (setHas (setOfL (setFlags b s how bits since).2.1) b.mails[i].uid = true ∧ (setFlags b s how bits since).1.mails[i].flags = flagsAfter b.mails[i].flags how bits ∧ (setFlags b s how bits since).1.mails[i].mod = (setFlags b s how bits since).1.mod)) ∧ (setHas (setOfL (setFlags b s how bits since).2.2) b.mails[i].uid = true → ¬ b.mails[i].mod ≤ since)) := by
  unfold setFlags
  split
  · refine ⟨by simp [flagBox], ?_, fun i h h' => ⟨?_, fun hl => ?_⟩⟩
    · simp only [flagBox, modAfter]; split <;> simp
    · simp only [flagBox, List.getElem_map]
      rw [doneU, setHas_uids hok]
      by_cases hd : isDone s how bits since b.mails[i] = true
      · right
        refine ⟨by rw [decide_eq_true_eq]; exact (uid_inj hok (List.getElem_mem h)).2 hd, ?_, ?_⟩
        · simp only [flagged, if_pos hd]
        · simp only [flagged, if_pos hd, modAfter]
          rw [if_pos]
          rw [List.any_eq_true]
          exact ⟨_, List.getElem_mem h, hd⟩
      · left
        refine ⟨?_, by simp only [flagged, if_neg hd]⟩
        rw [decide_eq_false_iff_not]
        exact fun hc => hd ((uid_inj hok (List.getElem_mem h)).1 hc)
    · simp only at hl
      rw [lateU, setHas_uids hok, decide_eq_true_eq] at hl
      have := (uid_inj hok (List.getElem_mem h)).1 hl
      simp [isLate] at this
      omega
  · refine ⟨rfl, .inl rfl, fun i h h' => ⟨.inl ⟨rfl, rfl⟩, fun hl => ?_⟩⟩
    simp [setOfL, setHas] at hl
theorem law_Stores : ∀ xs, Sh.hasL [.slice 5 1 (.int .u8)] xs → lim E 4 xs = some (.bool true, []) := by
  intro xs h
  obtain ⟨x, s, rfl, g, h⟩ := has_cons h
  obtain rfl := has_nil h
  obtain ⟨code, rfl⟩ := has_code _ _ g
  by_cases hbig : 1048576 < code.length
  · refine lim_run (E := E) rfl Try.func4 rfl (by kernel_rfl) (by kernel_rfl) ?_
    simp [Try.f4, tmpAt, hbig]
  have hc : code.length ≤ 1048576 := by omega
  have w1 := eq_DrawBox code hc
  try simp at w1
  have hok := boxDraw_ok (newCur code hc)
  have e1 : (boxDraw (newCur code hc)).1 = drawBox code hc := rfl
  rw [e1] at hok
  obtain ⟨⟨s, s2⟩, ⟨hs, _⟩, w2⟩ := ex_DrawSets code hc
  obtain ⟨p, ⟨hp, hpx⟩, w3⟩ := ex_DrawPlaces code hc
  simp at hs w2
  match p, hp, w3, hpx with
  | p0 :: p1 :: p2 :: ps, hp, w3, hpx =>
  simp at w3
  have hp0 := hpx p0 (by simp)
  have hp1 := hpx p1 (by simp)
  have hp2 := hpx p2 (by simp)
  generalize drawBox code hc = b at *
  have hsz := boxOk_sz hok
  have hn := boxOk_nums hok
  have hl := boxOk_lens hok
  have hsl := setOk_40 hs
  have hd : IntKind.i64.wrap (b.mod + 2) = b.mod + 2 := wrap_in (by omega) (by omega)
  have hd0 : ¬ b.mod + 2 = 0 := by omega
  generalize hhow : IntKind.i64.wrap (1 + p0.tmod 3) = how
  generalize hbits : p1.tmod 32 = bits
  generalize hsince : IntKind.i64.wrap (p2.tmod (b.mod + 2) - 1) = since
  have w4 := eq_SetFlags b s how bits since (by omega) (by omega)
  have w5 := eq_sSetFlags b s how bits since (by omega) (by omega)
  obtain ⟨t1, t2, t3, t4⟩ := setFlags_sets hok s how bits since
  obtain ⟨u1, u2, u3⟩ := setFlags_tells hok s how bits since
  have hok2 : boxOk (setFlags b s how bits since).1 = true := setFlags_ok hok
  rw [t1, t2] at w5
  generalize (setOfL (setFlags b s how bits since).2.1) = done at *
  generalize (setOfL (setFlags b s how bits since).2.2) = late at *
  generalize (setFlags b s how bits since).1 = n at *
  have hsz2 := boxOk_sz hok2
  have w6 := eq_lsameBox n n (by omega)
  have w7 := eq_sameSet done done (by omega)
  have w8 := eq_sameSet late late (by omega)
  have w9 := eq_BoxOk n (by omega)
  rw [hok2] at w9
  try simp at w4
  try simp at w5
  try simp at w6
  try simp at w7
  try simp at w8
  try simp at w9
  have hp12 : ps.length = 9 := by simp at hp; omega
  refine lim_run (E := E) rfl Try.func4 rfl (by kernel_rfl) (by kernel_rfl) ?_
  simp [Try.f4, tmpAt, hbig, w1, w2, w3, w4, w5, w6, w7, w8, w9, hd, hd0, hhow, hbits, hsince, u1]
  repeat (refine And.intro (by first | omega | (simp; omega)) ?_)
  refine loop_fr [3, 7, 8, 9, 10, 11, 12] [(3,0), (10,0), (52,2), (52,3)] (fun m st => ∃ (i : Nat), i + m = b.mails.length ∧ st.env 16 = .int .i64 i) (b.mails.length) _ ?_ ?_
  · exact ⟨0, by simp⟩
  rintro m0 ⟨env, rs⟩ hU0 hV0 ⟨i, hi, e0_16⟩ ih0; simp at hU0 hV0 e0_16
  have hw := wrap_up (show i < 4611686018427387904 by omega)
  simp [hU0, hV0, e0_16]
  refine RB_dec ?_ ?_ <;> intro h
  · have h' : i < n.mails.length := by omega
    obtain ⟨v1, v2⟩ := u3 i h h'
    have z1 := eq_SetHas done b.mails[i].uid (by omega)
    have z2 := eq_SetHas late b.mails[i].uid (by omega)
    rcases v1 with ⟨v1, v3⟩ | ⟨v1, v3, v4⟩
    · cases hla : setHas late b.mails[i].uid
      · simp [hU0, hV0, e0_16, h, h', z1, z2, v1, v3, hla, tmpAt]
        refine ih0 (m0 - 1) _ (by omega) ?_ ?_ ⟨i + 1, by omega, ?_⟩
        · simp [hU0, hV0, e0_16]
        · simp [hU0, hV0, e0_16]
        simp [hU0, hV0, e0_16, hw]
      · have v5 := v2 hla
        simp [hU0, hV0, e0_16, h, h', z1, z2, v1, v3, v5, hla, tmpAt]
        refine ih0 (m0 - 1) _ (by omega) ?_ ?_ ⟨i + 1, by omega, ?_⟩
        · simp [hU0, hV0, e0_16]
        · simp [hU0, hV0, e0_16]
        simp [hU0, hV0, e0_16, hw]
    · cases hla : setHas late b.mails[i].uid
      · simp [hU0, hV0, e0_16, h, h', z1, z2, v1, v3, v4, hla, tmpAt]
        refine ih0 (m0 - 1) _ (by omega) ?_ ?_ ⟨i + 1, by omega, ?_⟩
        · simp [hU0, hV0, e0_16]
        · simp [hU0, hV0, e0_16]
        simp [hU0, hV0, e0_16, hw]
      · have v5 := v2 hla
        simp [hU0, hV0, e0_16, h, h', z1, z2, v1, v3, v4, v5, hla, tmpAt]
        refine ih0 (m0 - 1) _ (by omega) ?_ ?_ ⟨i + 1, by omega, ?_⟩
        · simp [hU0, hV0, e0_16]
        · simp [hU0, hV0, e0_16]
        simp [hU0, hV0, e0_16, hw]
  · have hw1 : IntKind.i64.wrap (b.mod + 1) = b.mod + 1 := wrap_in (by omega) (by omega)
    have hne : ¬ b.mod + 1 = b.mod := by omega
    rcases u2 with u2 | u2 <;> simp [hU0, hV0, e0_16, h, u2, tmpAt, hw1, hne]
end Go.Proofs.Ytoeadcefgpkdcaa
