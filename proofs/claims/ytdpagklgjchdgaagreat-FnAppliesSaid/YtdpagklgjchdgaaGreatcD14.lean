/- Boxes: the program's SetFlags. -/
import Derived.Test.YtdpagklgjchdgaaGreatcP2
import Derived.Test.YtdpagklgjchdgaaGreatcP1
set_option linter.unusedSectionVars false
set_option linter.all false
set_option linter.unusedVariables false
set_option linter.unusedSimpArgs false
set_option maxRecDepth 100000
namespace Go.Proofs.YtdpagklgjchdgaaGreat
open Go.Lft

theorem uids_up {b : Box} (h : boxOk b = true) (p : Mail → Bool) : ((b.mails.filter p).map (·.uid)).Pairwise (· < ·) ∧ (∀ u ∈ (b.mails.filter p).map (·.uid), 1 ≤ u ∧ u ≤ 9999) ∧ ((b.mails.filter p).map (·.uid)).length ≤ 30 := by
  obtain ⟨a, b1, b2, b3, b4, c1, c2, c3, d1, d2, d3, d4⟩ := (boxOk_iff b).1 h
  refine ⟨?_, ?_, ?_⟩
  · rw [List.pairwise_map]
    exact c2.filter _
  · intro u hu
    simp only [List.mem_map, List.mem_filter] at hu
    obtain ⟨m, ⟨hm, _⟩, rfl⟩ := hu
    have := c1 m hm
    unfold MailFine at this
    omega
  · have : (b.mails.filter p).length ≤ b.mails.length := List.length_filter_le ..
    simp only [List.length_map]; omega
theorem sAdds_uids {b : Box} (h : boxOk b = true) (p : Mail → Bool) : sAdds ((b.mails.filter p).map (·.uid)) = setOfL ((b.mails.filter p).map (·.uid)) := by
  obtain ⟨h1, h2, h3⟩ := uids_up h p
  exact sAdds_eq _ h1 h2 (by omega)
theorem setHas_uids {b : Box} (h : boxOk b = true) (p : Mail → Bool) (n : Int) : setHas (setOfL ((b.mails.filter p).map (·.uid))) n = decide (n ∈ (b.mails.filter p).map (·.uid)) := by
  obtain ⟨h1, h2, h3⟩ := uids_up h p
  exact (setOfL_ok _ h1 h2).2.2 n
theorem doneU_pos (s : List Range) (how bits since : Int) (ms : List Mail) : (0 : Int) < (doneU s how bits since ms).length ↔ ms.any (isDone s how bits since) = true := by
  unfold doneU
  rw [List.length_map]
  constructor
  · intro h
    have h' : 0 < (ms.filter (isDone s how bits since)).length := by omega
    rw [List.length_filter_pos_iff] at h'
    rw [List.any_eq_true]; exact h'
  · intro h
    rw [List.any_eq_true] at h
    have : 0 < (ms.filter (isDone s how bits since)).length := by rw [List.length_filter_pos_iff]; exact h
    omega
set_option maxHeartbeats 4000000 in
theorem eq_SetFlags (b : Box) (s : List Range) (how bits since : Int) (hs : szBox b ≤ 16777200) (hl : s.length ≤ 16777216) : lim E 42 [encBox false false b, .lst false 95 2 (s.map encRange), .int .i64 how, .int .i64 bits, .int .i64 since] = some (.tup [encBox false true (setFlags b s how bits since).1, .lst true 95 2 ((setOfL (setFlags b s how bits since).2.1).map encRange), .lst true 95 2 ((setOfL (setFlags b s how bits since).2.2).map encRange)], []) := by
  have hz : szBox b = b.name.length + (b.mails.length + tot (fun (y : Mail) => szMail y) b.mails) + b.tombs.length := rfl
  have w1 := eq_BoxOk b (by omega)
  try simp at w1
  have w2 := eq_copyBox b (by omega)
  try simp at w2
  have w3 := eq_SetOk s hl
  cases hok : setFlagsOk b s how bits
  · refine lim_run (E := E) rfl Tryz.func42 rfl (by kernel_rfl) (by kernel_rfl) ?_
    simp [Tryz.f42, tmpAt, w1, w2, w3]
    repeat' first | (refine RT_dec ?_ ?_ <;> intro hg <;> try simp [tmpAt, hg, w1, w2, w3]) | (refine RT_split ?_ ?_ <;> intro hg <;> (try simp at hg) <;> try simp [tmpAt, hg, w1, w2, w3]) | (refine RB_dec ?_ ?_ <;> intro hg <;> try simp [tmpAt, hg, w1, w2, w3]) | (refine RB_ndec ?_ ?_ <;> intro hg <;> try simp [tmpAt, hg, w1, w2, w3]) | (refine RB_split ?_ ?_ <;> intro hg <;> (try simp at hg) <;> try simp [tmpAt, hg, w1, w2, w3]) | (refine RG_dec ?_ ?_ <;> intro hg <;> try simp [tmpAt, hg, w1, w2, w3]) | (refine RG_split ?_ ?_ <;> intro hg <;> (try simp at hg) <;> try simp [tmpAt, hg, w1, w2, w3])
    all_goals (first | (exfalso; simp_all [setFlagsOk]; done) | simp [setFlags, hok, setOfL])
  · have hok' := hok
    simp only [setFlagsOk, Bool.and_eq_true] at hok'
    obtain ⟨o1, o2, o3, o4⟩ := hok'
    have hn := boxOk_nums o1
    have hml := boxOk_lens o1
    have hw2 : IntKind.i64.wrap (b.mod + 1) = b.mod + 1 := wrap_in (by omega) (by omega)
    have dU := uids_up o1 (isDone s how bits since)
    have lU := uids_up o1 (isLate s since)
    refine lim_run (E := E) rfl Tryz.func42 rfl (by kernel_rfl) (by kernel_rfl) ?_
    simp [Tryz.f42, tmpAt, w1, w2, w3, o1, o2, o3, o4]
    refine loop_fr [1, 2, 3, 4, 5, 10, 13, 48, 49] [(5,0), (10,0)] (fun m st => ∃ (i r q : Nat), i + m = b.mails.length ∧ (r = 45 ∨ r = 100) ∧ (q = 46 ∨ q = 72) ∧ st.env 14 = .slc (r,0) [] 0 (doneU s how bits since (b.mails.take i)).length ∧ st.rs (r,0) = some ⟨false, .lst true 3 1 ((doneU s how bits since (b.mails.take i)).map (.int .i64))⟩ ∧ st.env 15 = .slc (q,0) [] 0 (lateU s since (b.mails.take i)).length ∧ st.rs (q,0) = some ⟨false, .lst true 3 1 ((lateU s since (b.mails.take i)).map (.int .i64))⟩ ∧ st.env 50 = .int .i64 i ∧ st.rs (13,0) = some ⟨true, encBox false true ⟨b.name, b.valid, b.next, b.mod, mapTo (flagged b s how bits since) i b.mails, b.tombs, b.horizon⟩⟩) (b.mails.length) _ ?_ ?_
    · exact ⟨0, 45, 46, by simp [doneU, lateU]⟩
    rintro m0 ⟨env, rs⟩ hU0 hV0 ⟨i, r, q, hi, hr, hq, e14, q14, e15, q15, e0_50, r0_13_0⟩ ih0; simp at hU0 hV0 e0_50 r0_13_0
    simp at e14 q14 e15 q15
    have hw := wrap_up (show i < 4611686018427387904 by omega)
    simp [hU0, hV0, e0_50, r0_13_0]
    refine RB_dec ?_ ?_ <;> intro h
    · have ws := eq_SetHas s b.mails[i].uid hl
      have hF : flagged b s how bits since b.mails[i] = if isDone s how bits since b.mails[i] = true then ⟨b.mails[i].uid, flagsAfter b.mails[i].flags how bits, b.mod + 1, b.mails[i].text⟩ else b.mails[i] := rfl
      have hD : isDone s how bits since b.mails[i] = (setHas s b.mails[i].uid && !(decide (0 ≤ since) && decide (since < b.mails[i].mod)) && decide (flagsAfter b.mails[i].flags how bits ≠ b.mails[i].flags)) := rfl
      have hL : isLate s since b.mails[i] = (setHas s b.mails[i].uid && (decide (0 ≤ since) && decide (since < b.mails[i].mod))) := rfl
      have n1 := doneU_next s how bits since b.mails i h
      have n2 := lateU_next s since b.mails i h
      have m1 := mapTo_same (flagged b s how bits since) i b.mails h
      have m2 := mapTo_set (flagged b s how bits since) i b.mails h
      have lA : (lateU s since (b.mails.take i)).length ≤ i := by
        unfold lateU; rw [List.length_map]; refine Nat.le_trans (List.length_filter_le ..) ?_; simp; omega
      have lB : (doneU s how bits since (b.mails.take i)).length ≤ i := by
        unfold doneU; rw [List.length_map]; refine Nat.le_trans (List.length_filter_le ..) ?_; simp; omega
      generalize hA : lateU s since (b.mails.take i) = A at *
      generalize hB : doneU s how bits since (b.mails.take i) = B at *
      generalize hmp : mapTo (flagged b s how bits since) i b.mails = mp at *
      have hmpl : mp.length = b.mails.length := by rw [← hmp]; simp
      have hmpg : ∀ h' : i < mp.length, mp[i] = b.mails[i] := by intro h'; subst hmp; simp
      have hlt : i < mp.length := by omega
      have hmg := hmpg hlt
      have bA : (A.length + 1) * 8 ≤ 140737488351232 := by omega
      have bB : (B.length + 1) * 8 ≤ 140737488351232 := by omega
      have k1 : ∀ n : Nat, n ≠ 45 → n ≠ 100 → (r = n) = False := fun n h1 h2 => eq_false (by omega)
      have k2 : ∀ n : Nat, n ≠ 45 → n ≠ 100 → (n = r) = False := fun n h1 h2 => eq_false (by omega)
      have k3 : ∀ n : Nat, n ≠ 46 → n ≠ 72 → (q = n) = False := fun n h1 h2 => eq_false (by omega)
      have k4 : ∀ n : Nat, n ≠ 46 → n ≠ 72 → (n = q) = False := fun n h1 h2 => eq_false (by omega)
      have k5 : ¬ r = q := by omega
      have k6 : ¬ q = r := by omega
      have k7 : ¬ r = 72 := by omega
      have k8 : ¬ q = 100 := by omega
      simp [hU0, hV0, e0_50, r0_13_0, h, hlt, hmpl, hmg, ws]
      cases h1 : setHas s b.mails[i].uid
      · simp [h1] at hD hL
        simp [hD] at hF n1 m1
        simp [hL] at n2
        rw [hF] at m1
        simp at m1
        simp [hU0, hV0, e0_50, r0_13_0, h, hw]
        refine ih0 (m0 - 1) _ (by omega) ?_ ?_ ⟨i + 1, r, q, by omega, hr, hq, ?_⟩
        · simp [hU0, hV0, e0_50, r0_13_0, h, k1, k2, k3, k4]
        · simp [hU0, hV0, e0_50, r0_13_0, h, k1, k2, k3, k4]
        simp [hU0, hV0, e0_50, r0_13_0, e14, q14, e15, q15, n1, n2, m1, hA, hB, hmp, k1, k2, k3, k4]
      · cases h2 : (decide (0 ≤ since) && decide (since < b.mails[i].mod))
        · have h2' : ¬ (0 ≤ since ∧ since < b.mails[i].mod) := by simpa using h2
          have hL' : isLate s since b.mails[i] = false := by rw [hL, h1, h2]; rfl
          simp [hL'] at n2
          have hor : (0 ≤ since ∧ ¬ since < b.mails[i].mod) ∨ ¬ 0 ≤ since := by omega
          rcases hor with ⟨h0, h3⟩ | h0
          all_goals
            simp [hU0, hV0, e0_50, r0_13_0, h, h0, tmpAt, hlt, hmpl, hmg]
            try simp [hU0, hV0, e0_50, r0_13_0, h, h0, h3, tmpAt, hlt, hmpl, hmg]
            refine RB_ndec ?_ ?_ <;> intro hc
            · have hD' : isDone s how bits since b.mails[i] = true := by rw [hD, h1, h2]; simp [hc]
              rw [if_pos hD'] at hF n1
              rw [hF] at m2
              simp [hU0, hV0, e0_50, r0_13_0, h, hlt, hmpl, hmg, hw2, e14, q14, k1, k2, k3, k4, k5, k6, k7, k8, bB]
              refine ⟨trOk_unord (L := [(0, 2), (0, 3), (0, 4), (0, 5), (0, 6), (0, 7), (0, 8), (0, 9), (1, 2), (1, 3), (1, 4), (1, 5), (1, 6), (1, 7), (1, 8), (1, 9), (2, 3), (2, 4), (2, 5), (2, 6), (2, 7), (2, 8), (2, 9), (3, 5), (3, 6), (3, 7), (3, 8), (3, 9), (3, 10), (3, 11), (3, 12), (4, 5), (4, 6), (4, 7), (4, 8), (4, 9), (4, 10), (4, 11), (4, 12), (5, 6), (5, 7), (5, 8), (5, 9), (5, 10), (5, 11), (5, 12), (6, 7), (6, 8), (6, 9), (7, 10), (7, 11), (7, 12), (8, 10), (8, 11), (8, 12), (9, 10), (9, 11), (9, 12)]) (by kernel_rfl) (by simp) (by simp [indepAt, indep, spares, around, aside, pre, isSlc, Tr.feels, Tr.all, moves, bare, opData, isExt, cmpOf, Op.operands, Call.operands, mentL, ment, D.noUndefL, D.noUndef, pureE, hU0, hV0, e0_50, r0_13_0]), ?_⟩
              refine ih0 (m0 - 1) _ (by omega) ?_ ?_ ⟨i + 1, 100, q, by omega, by simp, hq, ?_⟩
              · simp [hU0, hV0, e0_50, r0_13_0, h, k1, k2, k3, k4]
              · simp [hU0, hV0, e0_50, r0_13_0, h, k1, k2, k3, k4]
              simp [hU0, hV0, e0_50, r0_13_0, e15, q15, n1, n2, ← m2, hA, hB, hmp, k1, k2, k3, k4, k5, k6, k7, k8, hw]
            · have hD' : isDone s how bits since b.mails[i] = false := by rw [hD]; simp [hc]
              simp [hD'] at hF n1 m1
              rw [hF] at m1
              simp at m1
              simp [hU0, hV0, e0_50, r0_13_0]
              refine ih0 (m0 - 1) _ (by omega) ?_ ?_ ⟨i + 1, r, q, by omega, hr, hq, ?_⟩
              · simp [hU0, hV0, e0_50, r0_13_0, h, k1, k2, k3, k4]
              · simp [hU0, hV0, e0_50, r0_13_0, h, k1, k2, k3, k4]
              simp [hU0, hV0, e0_50, r0_13_0, e14, q14, e15, q15, n1, n2, m1, hA, hB, hmp, k1, k2, k3, k4, k5, k6, k7, k8, hw]
        · simp at h2
          simp [h1, h2] at hD hL
          simp [hD] at hF n1 m1
          simp [hL] at n2
          rw [hF] at m1
          simp at m1
          simp [hU0, hV0, e0_50, r0_13_0, h, hw, h2, tmpAt, e15, q15, k1, k2, k3, k4, k5, k6, k7, k8, bA]
          refine ih0 (m0 - 1) _ (by omega) ?_ ?_ ⟨i + 1, r, 72, by omega, hr, by simp, ?_⟩
          · simp [hU0, hV0, e0_50, r0_13_0, h, k1, k2, k3, k4]
          · simp [hU0, hV0, e0_50, r0_13_0, h, k1, k2, k3, k4]
          simp [hU0, hV0, e0_50, r0_13_0, e14, q14, n1, n2, m1, hA, hB, hmp, k1, k2, k3, k4, k5, k6, k7, k8]
    · have hfull : b.mails.take i = b.mails := List.take_of_length_le (by omega)
      have hall := mapTo_all (flagged b s how bits since) i b.mails h
      have w4 : ∀ fb : Box, fb = flagBox b s how bits since → _ := fun fb hfb => eq_BoxOk fb (by rw [hfb, sz_flagBox]; omega)
      have w5 := eq_setOfList (doneU s how bits since b.mails) (by have := dU.2.2; unfold doneU; omega) dU.2.1
      have w6 := eq_setOfList (lateU s since b.mails) (by have := lU.2.2; unfold lateU; omega) lU.2.1
      have hdp := doneU_pos s how bits since b.mails
      have hsf : ∀ fb : Box, fb = flagBox b s how bits since → setFlags b s how bits since = if boxOk fb = true then (fb, doneU s how bits since b.mails, lateU s since b.mails) else (b, [], []) := by
        rintro fb rfl
        unfold setFlags
        by_cases hb : boxOk (flagBox b s how bits since) = true
        · rw [if_pos ⟨hok, hb⟩, if_pos hb]
        · rw [if_neg (fun h => hb h.2), if_neg hb]
      rw [hfull] at e14 q14 e15 q15
      simp only [hall] at r0_13_0
      simp at r0_13_0
      simp [hU0, hV0, e0_50, r0_13_0, h, e14]
      refine RB_dec ?_ ?_ <;> intro hd
      · have hmd : modAfter b s how bits since b.mails = b.mod + 1 := by unfold modAfter; rw [if_pos (hdp.1 (by omega))]
        have hfb : (⟨b.name, b.valid, b.next, b.mod + 1, b.mails.map (flagged b s how bits since), b.tombs, b.horizon⟩ : Box) = flagBox b s how bits since := by unfold flagBox; rw [hmd]
        have w4 := w4 _ hfb
        have hsf := hsf _ hfb
        simp at w4
        rcases hr with rfl | rfl <;> rcases hq with rfl | rfl
        all_goals
          simp [hU0, hV0, e0_50, r0_13_0, w4, hw2]
          cases hb : boxOk ⟨b.name, b.valid, b.next, b.mod + 1, b.mails.map (flagged b s how bits since), b.tombs, b.horizon⟩ <;> simp [hb] at hsf <;> simp [hU0, hV0, e0_50, r0_13_0, hb, w2, w5, w6, hsf, e14, q14, e15, q15, setOfL]
      · have hmd : modAfter b s how bits since b.mails = b.mod := by unfold modAfter; rw [if_neg (fun hc => hd (by have := hdp.2 hc; omega))]
        have hfb : (⟨b.name, b.valid, b.next, b.mod, b.mails.map (flagged b s how bits since), b.tombs, b.horizon⟩ : Box) = flagBox b s how bits since := by unfold flagBox; rw [hmd]
        have w4 := w4 _ hfb
        have hsf := hsf _ hfb
        simp at w4
        rcases hr with rfl | rfl <;> rcases hq with rfl | rfl
        all_goals
          simp [hU0, hV0, e0_50, r0_13_0, w4, hw2]
          cases hb : boxOk ⟨b.name, b.valid, b.next, b.mod, b.mails.map (flagged b s how bits since), b.tombs, b.horizon⟩ <;> simp [hb] at hsf <;> simp [hU0, hV0, e0_50, r0_13_0, hb, w2, w5, w6, hsf, e14, q14, e15, q15, setOfL]
end Go.Proofs.YtdpagklgjchdgaaGreat
