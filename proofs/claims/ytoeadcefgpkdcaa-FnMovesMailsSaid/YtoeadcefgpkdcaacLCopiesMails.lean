/- The law FnCopiesMails, at the level of data: true for all data. -/
import Derived.Test.YtoeadcefgpkdcaacK1
set_option linter.unusedSectionVars false
set_option linter.all false
set_option linter.unusedVariables false
set_option linter.unusedSimpArgs false
set_option maxRecDepth 100000
namespace Go.Proofs.Ytoeadcefgpkdcaa
open Go.Lft

def noneN : S := [110, 111, 110, 101]
theorem copies {s A : Store} {set_ : List Range} (hg : Good s) (hset : setOk set_ = true) (h : makeBox s newN = (A, 0)) (hA : storeOk A = true) (h1 : boxAt A newN = (boxNew newN s.valid, true)) (h2 : ∀ b ∈ s.boxes, boxAt A b.name = (b, true) ∧ b.valid < s.valid) :
    ∃ F b O : _, boxAt A inboxN = (F, true) ∧ boxOk F = true ∧ copyMails A inboxN set_ newN = (O, 0) ∧ storeOk O = true ∧ boxAt O inboxN = (F, true) ∧ boxAt O newN = (b, true) ∧ boxOk b = true ∧ b.mails.map (fun m => (m.flags, m.text)) = (F.mails.filter fun m => setHas set_ m.uid).map (fun m => (m.flags, m.text)) ∧ copyMails A inboxN set_ noneN = (A, 1) := by
  obtain ⟨F, hF, hFn⟩ := List.mem_map.1 hg.inbox
  obtain ⟨c1, c2, c3, c4⟩ := (storeOk_iff s).1 hg.ok
  have hFok := (c1 F hF).1
  have hAF : boxAt A inboxN = (F, true) := by rw [← hFn]; exact (h2 F hF).1
  obtain ⟨_, m1, m2, m3, _, m5, _, m7, _⟩ := (boxOk_iff F).1 hFok
  have hBok : boxOk (boxNew newN s.valid) = true := boxNew_ok (by decide) (by omega) (by omega)
  have hfl : (F.mails.filter fun m => setHas set_ m.uid).length ≤ F.mails.length := List.length_filter_le ..
  obtain ⟨_, _, _, _, _, mf, _, ml, _⟩ := (boxOk_iff F).1 hFok
  obtain ⟨b, hb1, hb2⟩ := addAll_right (F.mails.filter fun m => setHas set_ m.uid) hBok (fun m hm => by
    have := mf m (List.mem_filter.1 hm).1
    exact ⟨this.2.2.1, this.2.2.2.2.2⟩) (by simp [boxNew]; omega) (by simp [boxNew]; omega) (by simp [boxNew]; omega)
  obtain ⟨k1, k2, k3⟩ := addAll_ok _ hBok hb1
  have hm0 : (boxAt A newN).1 ∈ A.boxes := (boxAt_mem (by rw [h1])).1
  have hmF : F ∈ A.boxes := by have := (boxAt_mem (s := A) (n := inboxN) (by rw [hAF])).1; rwa [hAF] at this
  rw [h1] at hm0
  obtain ⟨q1, q2⟩ := put_has hA k1 hm0 k2.symm k3.symm
  have q3 := q2 F hmF (by rw [k2, hFn]; show inboxN ≠ newN; decide)
  have hbn : b.name = newN := k2
  rw [hbn] at q1
  rw [hFn] at q3
  refine ⟨F, b, putBox A b, hAF, hFok, ?_, (putBox_ok hA k1 hm0 k2.symm k3.symm).1, q3, q1, k1, ?_, ?_⟩
  · unfold copyMails
    rw [if_pos ⟨hA, hset⟩, hAF, h1, if_pos ⟨rfl, rfl⟩]
    simp only [hb1]
  · rw [hb2]; simp [boxNew]
  · have hn : (boxAt A noneN).2 = false := by
      refine boxAt_none ?_
      rw [List.any_eq_false]
      intro x hx hc
      have e : x.name = noneN := by simpa [isNamed] using hc
      rcases make_names hg h x hx with q | q
      · rw [e] at q
        simp [names4, noneN, inboxN] at q
      · rw [e] at q
        simp [noneN, newN] at q
    unfold copyMails
    rw [if_pos ⟨hA, hset⟩, if_neg (fun h => by rw [hn] at h; exact Bool.noConfusion h.2)]
theorem at_count {ms bs : List Mail} {p : Mail → Bool} (h : bs.map (fun m => (m.flags, m.text)) = (ms.filter p).map (fun m => (m.flags, m.text))) {i : Nat} (hi : i < ms.length) (hp : p ms[i] = true) :
    ∃ hk : ((ms.take i).filter p).length < bs.length, bs[((ms.take i).filter p).length].flags = ms[i].flags ∧ bs[((ms.take i).filter p).length].text = ms[i].text := by
  have e : ms.filter p = (ms.take i).filter p ++ ms[i] :: (ms.drop (i + 1)).filter p := by
    conv => lhs; rw [← List.take_append_drop i ms, List.drop_eq_getElem_cons hi, List.filter_append, List.filter_cons_of_pos hp]
  have hl := congrArg List.length h
  rw [List.length_map, List.length_map, e, List.length_append, List.length_cons] at hl
  have hk : ((ms.take i).filter p).length < bs.length := by omega
  refine ⟨hk, ?_⟩
  have h2 := congrArg (fun l => l[((ms.take i).filter p).length]?) h
  simp only [e] at h2
  rw [List.getElem?_map, List.getElem?_eq_getElem hk, List.getElem?_map, List.getElem?_append_right (Nat.le_refl _), Nat.sub_self] at h2
  simp at h2
  exact h2
set_option maxHeartbeats 4000000 in
theorem law_CopiesMails : ∀ xs, Sh.hasL [.slice 5 1 (.int .u8)] xs → lim E 8 xs = some (.bool true, []) := by
  intro xs h
  obtain ⟨x, s, rfl, g, h⟩ := has_cons h
  obtain rfl := has_nil h
  obtain ⟨code, rfl⟩ := has_code _ _ g
  by_cases hbig : 1048576 < code.length
  · refine lim_run (E := E) rfl Try.func8 rfl (by kernel_rfl) (by kernel_rfl) ?_
    simp [Try.f8, tmpAt, hbig]
  have hc : code.length ≤ 1048576 := by omega
  obtain ⟨s, hg, w1⟩ := ex_DrawStore code hc
  try simp at w1
  have hs := storeOk_sz hg.ok
  obtain ⟨⟨set_, set2⟩, ⟨hset, _⟩, w2⟩ := ex_DrawSets code hc
  simp at hset w2
  have hsl := setOk_40 hset
  have w3 := eq_MakeBox s newN (by omega) (by decide)
  rcases make_new hg with ⟨e1, e2⟩ | ⟨A, dd, e1, e2, e3, e4, _⟩
  · rw [e1] at w3
    unfold newN at w3
    try simp at w3
    refine lim_run (E := E) rfl Try.func8 rfl (by kernel_rfl) (by kernel_rfl) ?_
    simp [Try.f8, tmpAt, hbig, w1, w2, w3]
  · rw [e1] at w3
    have hA := storeOk_sz e2
    obtain ⟨F, b, O, f1, f2, f3, f4, f5, f6, f7, f8, f9⟩ := copies hg hset e1 e2 e3 e4
    have hO := storeOk_sz f4
    have w4 := eq_CopyMails A inboxN set_ newN (by omega) (by omega)
    rw [f3] at w4
    have w5 := eq_sBoxAt A inboxN (by omega)
    rw [f1] at w5
    have w6 := eq_sBoxAt O inboxN (by omega)
    rw [f5] at w6
    have w7 := eq_sBoxAt O newN (by omega)
    rw [f6] at w7
    have w8 := eq_CopyMails A inboxN set_ noneN (by omega) (by omega)
    rw [f9] at w8
    have w9 := eq_StoreOk O (by omega)
    rw [f4] at w9
    have hFs := boxOk_sz f2
    have hFl := boxOk_lens f2
    have hbl := boxOk_lens f7
    have w10 := eq_lsameBox F F (by omega)
    unfold newN at w3 w4 w7
    unfold inboxN at w4 w5 w6 w8
    unfold noneN at w8
    try simp at w3
    try simp at w4
    try simp at w5
    try simp at w6
    try simp at w7
    try simp at w8
    try simp at w9
    try simp at w10
    refine lim_run (E := E) rfl Try.func8 rfl (by kernel_rfl) (by kernel_rfl) ?_
    simp [Try.f8, tmpAt, hbig, w1, w2, w3, w4, w5, w6, w7]
    refine loop_fr [3, 4, 7, 8, 9, 11, 13] [(3,0), (7,0), (9,0), (11,0), (13,0), (25,0)] (fun m st => ∃ (i k : Nat), i + m = F.mails.length ∧ k = ((F.mails.take i).filter fun m => setHas set_ m.uid).length ∧ st.env 15 = .int .i64 k ∧ st.env 16 = .int .i64 i) (F.mails.length) _ ?_ ?_
    · exact ⟨0, 0, by simp⟩
    rintro m0 ⟨env, rs⟩ hU0 hV0 ⟨i, k, hi, hk, e0_15, e0_16⟩ ih0; simp at hU0 hV0 e0_15 e0_16
    have hw := wrap_up (show i < 4611686018427387904 by omega)
    simp [hU0, hV0, e0_15, e0_16]
    refine RB_dec ?_ ?_ <;> intro h
    · have z1 := eq_sSetHas set_ F.mails[i].uid (by omega)
      have hn := take_filter (fun m => setHas set_ m.uid) F.mails i h
      have hn2 := congrArg List.length hn
      cases hh : setHas set_ F.mails[i].uid
      · rw [hh] at z1
        simp [hh] at hn2
        simp [hU0, hV0, e0_15, e0_16, h, z1, tmpAt]
        refine ih0 (m0 - 1) _ (by omega) ?_ ?_ ⟨i + 1, k, by omega, by rw [hn2, hk], ?_⟩
        · simp [hU0, hV0, e0_15, e0_16, h]
        · simp [hU0, hV0, e0_15, e0_16, h]
        simp [hU0, hV0, e0_15, e0_16, hw]
      · rw [hh] at z1
        simp [hh] at hn2
        obtain ⟨u1, u2, u3⟩ := at_count f8 h hh
        rw [← hk] at u1
        simp only [← hk] at u2 u3
        have hwk := wrap_up (show k < 4611686018427387904 by omega)
        have u4 : ¬ b.mails.length ≤ k := by omega
        simp [hU0, hV0, e0_15, e0_16, h, z1, u1, u2, u3, u4, tmpAt]
        refine ih0 (m0 - 1) _ (by omega) ?_ ?_ ⟨i + 1, k + 1, by omega, by rw [hn2, hk], ?_⟩
        · simp [hU0, hV0, e0_15, e0_16, h]
        · simp [hU0, hV0, e0_15, e0_16, h]
        simp [hU0, hV0, e0_15, e0_16, hw, hwk]
    · rw [List.take_of_length_le (by omega)] at hk
      have hkl : k = b.mails.length := by
        have := congrArg List.length f8
        rw [List.length_map, List.length_map] at this
        omega
      simp [hU0, hV0, e0_15, e0_16, h, w8, w9, w10, hkl, tmpAt]
end Go.Proofs.Ytoeadcefgpkdcaa
